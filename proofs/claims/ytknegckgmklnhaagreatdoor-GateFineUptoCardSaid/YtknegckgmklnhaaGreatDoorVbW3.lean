/- Parts of the proof. -/
import Derived.Test.YtknegckgmklnhaaGreatDoorVbW
namespace Go.Proofs.YtknegckgmklnhaaGreatDoor
open Go Go.CP
set_option maxRecDepth 100000
def vH (x6 x7 x28 x29 x30:LV) (R:LV.RT) (st:aa):Prop:=LTg Tryz.prog (kindOf false) [.tmp 4,.tmp 5] (bg Tryz.f20 10) [] R (LV.jk 6 (x6::x7::(LV.jk 20 (x28::x29::x30::(LV.jk 23 []))))) st
def NJ:List Nat:=(LV.gx 0 54 [6,7,28,29,30])
def w20 (a0 a1:LV) (R:LV.RT) (st:aa):Prop:=
 bd (ak BinOp.lss a0 (i64 0)) fun v0=>al v0 (R (LV.tup [LV.nilp,i64 2]) st)
 (bd (ak BinOp.gtr a0 (i64 1000)) fun v1=>al v1 (R (LV.tup [LV.nilp,i64 2]) st)
 (bd (bo a1) fun v2=>bd (ak BinOp.gtr v2 (i64 16)) fun v3=>al v3 (R (LV.tup [LV.nilp,i64 3]) st)
 (LZ 78 [a1] st fun v4 gE=>EU gE fun v6 gT=>bd (aL (ao (ay [(0,1),(1,1),(2,1)]) [i64 0,LV.nils,LV.nilm] [(0,a0),(1,v4),(2,v6)])) fun v8=>bd2 (b8 gT v8) fun v9 eQ=>bd (bo a1) fun iD=>vH v9 (LV.str []) a1 iD (i64 0) R eQ)))
theorem c20 (a0 a1:LV) {R:LV.RT} {st:aa} (h:w20 a0 a1 R st):LZ 20 [a0,a1] st R:=
 cz NJ [] [.tmp 4,.tmp 5] Tryz.func20 h
def Ar (x6 x7 x28 x29 x30:LV) (R:LV.RT) (st:aa):Prop:=
 bd (ak BinOp.lss x30 x29) fun v0=>al v0
 (bd (aR 6 x28 x30) fun v1=>bd (ldA st v1 6) fun v2=>nw st [LV.str [],LV.nilp,LV.bool false,LV.bool false,LV.bool false,LV.bool false] fun v3 mK=>bd2 (lmk (stV mK 6 v3 v2)) fun _ iN=>bd (ldA iN v3 6) fun v7=>LZ 79 [v7,x7] iN fun v8 eQ=>bd (ak BinOp.neq v8 (i64 0)) fun nE=>al nE (R (LV.tup [LV.nilp,v8]) eQ)
 (bd (aj x6) fun oF=>bd (ad 2 oF) fun oR=>bd (ld1 eQ oR) fun iS=>bd (ad 0 v3) fun rW=>bd (ld1 eQ rW) fun aS=>bd (ad 0 v3) fun iD=>bd (ld1 eQ iD) fun iF=>bd2 (q7 eQ true (some (i64 0)) iS aS) fun aT gE=>ld1 gE iD=some iF∧
 bd (ai aT 1) fun bY=>bd2 (lmk (gU gE iS bY x30)) fun _ gT=>ld1 gT iD=some iF∧bd (ak BinOp.add x30 (i64 1)) fun c7=>vH x6 iF x28 x29 c7 R gT))
 (R (LV.tup [x6,i64 0]) st)
theorem FX (x6 x7 x28 x29 x30:LV) {R:LV.RT} {st:aa} (h:Ar x6 x7 x28 x29 x30 R st):vH x6 x7 x28 x29 x30 R st:=
 pz NJ [] h
def w36 (a0:LV) (R:LV.RT) (st:aa):Prop:=
 bd (eqB BinOp.eql (dW true a0 LV.nilp)) fun v0=>al v0 (R LV.nils st) (bd (aj a0) fun v1=>bd (ad 1 v1) fun v2=>bd (ld1 st v2) fun v3=>LZ 78 [v3] st fun v4 eQ=>R v4 eQ)
theorem c36 (a0:LV) {R:LV.RT} {st:aa} (h:w36 a0 R st):LZ 36 [a0] st R:=
 cz [] [] [.tmp 2] Tryz.func36 h
def w37 (a0:LV) (R:LV.RT) (st:aa):Prop:=
 bd (eqB BinOp.eql (dW true a0 LV.nilp)) fun v0=>al v0 (R (i64 0) st) (bd (aj a0) fun v1=>bd (ad 0 v1) fun v2=>bd (ld1 st v2) fun v3=>R v3 st)
theorem c37 (a0:LV) {R:LV.RT} {st:aa} (h:w37 a0 R st):LZ 37 [a0] st R:=
 cz [] [] [.tmp 2] Tryz.func37 h
def vI (x6 x8 x10 x11 x12:LV) (R:LV.RT) (st:aa):Prop:=LTg Tryz.prog (kindOf false) [.tmp 2,.tmp 3,.tmp 4] (bg Tryz.f21 10) [] R (LV.jk 6 (x6::.aN::x8::.aN::x10::x11::x12::(LV.jk 74 []))) st
def FY (x6 x8 x10 x11 x12:LV) (R:LV.RT) (st:aa):Prop:=LTg Tryz.prog (kindOf false) [.tmp 2,.tmp 3,.tmp 4] (bg Tryz.f21 18) [] R (LV.jk 6 (x6::.aN::x8::.aN::x10::x11::x12::(LV.jk 74 []))) st
def LU:List Nat:=(LV.gx 0 87 [6,8,10,11,12])
def LW:List (Nat × List Nat):=[(16,(LV.gx 0 87 [6,8,10,11,12]))]
def w21 (a0:LV) (R:LV.RT) (st:aa):Prop:=
 bd (bJ a0) fun v0=>bd (ak BinOp.gtr v0 (i64 1048576)) fun v1=>al v1 (R (LV.tup [LV.nilp,i64 0,i64 3]) st)
 (LZ 80 [a0,LV.str [10]] st fun v2 iD=>bd (ai v2 0) fun v4=>bd (ai v2 1) fun v5=>bd (ai v2 2) fun v6=>LZ 81 [v4] iD fun v7 eQ=>bd (ai v7 0) fun v9=>bd (ai v7 1) fun iF=>bd (lun UnOp.not v6) fun iN=>al iN (R (LV.tup [LV.nilp,i64 1,i64 4]) eQ)
 (bd (lun UnOp.not iF) fun iS=>al iS (R (LV.tup [LV.nilp,i64 1,i64 4]) eQ)
 (LZ 20 [v9,LV.nils] eQ fun gT gE=>bd (ai gT 0) fun mK=>bd (ai gT 1) fun nE=>vI v5 v9 mK nE (i64 2) R gE)))
theorem c21 (a0:LV) {R:LV.RT} {st:aa} (h:w21 a0 R st):LZ 21 [a0] st R:=
 cz LU LW [.tmp 2,.tmp 3,.tmp 4] Tryz.func21 h
def Au (x6 x8 x10 x11 x12:LV) (R:LV.RT) (st:aa):Prop:=
 bd (ak BinOp.eql x11 (i64 0)) fun v0=>al v0
 (bd (bG BinOp.neq x6 (LV.str [])) fun v1=>al v1
 (LZ 80 [x6,LV.str [10]] st fun v2 oF=>bd (ai v2 0) fun v4=>bd (ai v2 1) fun v5=>bd (ai v2 2) fun v6=>LZ 82 [v4] oF fun v7 oR=>bd (ai v7 0) fun v9=>bd (ai v7 1) fun rW=>nw oR [LV.str [],LV.nilp,LV.bool false,LV.bool false,LV.bool false,LV.bool false] fun iN gT=>bd2 (lmk (stV gT 6 iN v9)) fun _ eQ=>bd (lun UnOp.not v6) fun aS=>al aS (R (LV.tup [LV.nilp,x12,i64 4]) eQ)
 (bd (lun UnOp.not rW) fun aT=>al aT (R (LV.tup [LV.nilp,x12,i64 4]) eQ)
 (bd (aj x10) fun bY=>bd (ad 1 bY) fun iS=>bd (ld1 eQ iS) fun mK=>bd (ldA eQ iN 6) fun c7=>bd2
 (aP eQ 1
 (ao (fun i=>some (i*6,6)) (List.replicate 1 [LV.str [],LV.nilp,LV.bool false,LV.bool false,LV.bool false,LV.bool false]).flatten [(0,c7)]))
 fun dO gE=>ld1 gE iS=some mK∧
 bd2 (ar gE 6 32 Md.rw mK dO) fun lE iD=>LZ 20 [x8,lE] iD fun nE iF=>bd (ai nE 0) fun lT=>bd (ai nE 1) fun p7=>FY v5 x8 lT p7 x12 R iF)))
 (bd (ak BinOp.neq x11 (i64 0)) fun p8=>al p8 (R (LV.tup [LV.nilp,i64 1,x11]) st) (R (LV.tup [x10,i64 0,i64 0]) st)))
 (bd (ak BinOp.neq x11 (i64 0)) fun p9=>al p9 (R (LV.tup [LV.nilp,i64 1,x11]) st) (R (LV.tup [x10,i64 0,i64 0]) st))
theorem FZ (x6 x8 x10 x11 x12:LV) {R:LV.RT} {st:aa} (h:Au x6 x8 x10 x11 x12 R st):vI x6 x8 x10 x11 x12 R st:=
 pz LU LW h
def Av (x6 x8 x10 x11 x12:LV) (R:LV.RT) (st:aa):Prop:=
 bd (ak BinOp.neq x11 (i64 0)) fun v0=>al v0 (R (LV.tup [LV.nilp,x12,x11]) st) (bd (ak BinOp.add x12 (i64 1)) fun v1=>vI x6 x8 x10 x11 v1 R st)
theorem F5 (x6 x8 x10 x11 x12:LV) {R:LV.RT} {st:aa} (h:Av x6 x8 x10 x11 x12 R st):FY x6 x8 x10 x11 x12 R st:=
 pz LU LW h
def w39 (a0 a1:LV) (R:LV.RT) (st:aa):Prop:=
 nw st [LV.str [],LV.nilp,LV.bool false,LV.bool false,LV.bool false,LV.bool false] fun v0 eQ=>bd (eqB BinOp.eql (dW true a0 LV.nilp)) fun v2=>al v2
 (bd (aL (ao (ay [(0,1),(1,1),(2,1),(3,1),(4,1),(5,1)]) [LV.str [],LV.nilp,LV.bool false,LV.bool false,LV.bool false,LV.bool false] [])) fun v3=>bd2 (lmk (stV eQ 6 v0 v3)) fun _ iD=>bd (ldA iD v0 6) fun v6=>R (LV.tup [v6,LV.bool false]) iD)
 (bd (aj a0) fun v7=>bd (ad 2 v7) fun v8=>bd (ld1 eQ v8) fun v9=>bd (q6 eQ true (some (i64 0)) v9 a1 true) fun iF=>bd (ai iF 0) fun iN=>bd (ai iF 1) fun iS=>bd (lun UnOp.not iS) fun mK=>al mK
 (bd (aL (ao (ay [(0,1),(1,1),(2,1),(3,1),(4,1),(5,1)]) [LV.str [],LV.nilp,LV.bool false,LV.bool false,LV.bool false,LV.bool false] [])) fun nE=>bd2 (lmk (stV eQ 6 v0 nE)) fun _ gE=>bd (ldA gE v0 6) fun oF=>R (LV.tup [oF,LV.bool false]) gE)
 (bd (aj a0) fun oR=>bd (ad 1 oR) fun rW=>bd (ld1 eQ rW) fun aS=>bd (aR 6 aS iN) fun aT=>bd (ldA eQ aT 6) fun bY=>bd2 (lmk (stV eQ 6 v0 bY)) fun _ gT=>bd (ldA gT v0 6) fun c7=>R (LV.tup [c7,LV.bool true]) gT))
theorem c39 (a0 a1:LV) {R:LV.RT} {st:aa} (h:w39 a0 a1 R st):LZ 39 [a0,a1] st R:=
 cz [] [] [.cell 4 37,.tmp 5] Tryz.func39 h
def w79 (a0 a1:LV) (R:LV.RT) (st:aa):Prop:=
 bd2 (b8 st a0) fun v0 gE=>bd (ad 0 v0) fun v2=>bd (ld1 gE v2) fun v3=>LZ 142 [v3] gE fun v4 eQ=>bd (lun UnOp.not v4) fun v6=>al v6 (R (i64 7) eQ)
 (bd (ad 0 v0) fun v7=>bd (ld1 eQ v7) fun v8=>bd (bG BinOp.eql v8 a1) fun v9=>al v9 (R (i64 9) eQ)
 (bd (ad 0 v0) fun gT=>bd (ld1 eQ gT) fun iD=>bd (bG BinOp.lss iD a1) fun iF=>al iF (R (i64 4) eQ)
 (bd (ad 1 v0) fun iN=>bd (ld1 eQ iN) fun iS=>bd (eqB BinOp.eql (dW true iS LV.nilp)) fun mK=>al mK (R (i64 6) eQ)
 (bd (ad 2 v0) fun nE=>bd (ld1 eQ nE) fun oF=>al oF (bd (ad 3 v0) fun oR=>bd (ld1 eQ oR) fun rW=>al rW (R (i64 1) eQ) (R (i64 0) eQ))
 (R (i64 0) eQ)))))
theorem c79 (a0 a1:LV) {R:LV.RT} {st:aa} (h:w79 a0 a1 R st):LZ 79 [a0,a1] st R:=
 cz [] [] [.tmp 4] Tryz.func79 h
def w81 (a0:LV) (R:LV.RT) (st:aa):Prop:=
 LZ 144 [a0,LV.str [118,101,114,115,105,111,110,32]] st fun v0 gT=>bd (ai v0 0) fun v2=>bd (ai v0 1) fun v3=>LZ 145 [v2] gT fun v4 eQ=>bd (ai v4 0) fun v6=>bd (ai v4 1) fun v7=>al v3
 (bd (eqB BinOp.eql (qY true (ia Tryz.prog) v7 LV.nili)) fun v8=>al v8 (LZ 83 [v6] eQ fun v9 gE=>bd (bG BinOp.eql v9 v2) fun iD=>R (LV.tup [v6,iD]) gE) (R (LV.tup [v6,LV.bool false]) eQ))
 (R (LV.tup [v6,LV.bool false]) eQ)
theorem c81 (a0:LV) {R:LV.RT} {st:aa} (h:w81 a0 R st):LZ 81 [a0] st R:=
 cz [] [] [.tmp 2,.tmp 3] Tryz.func81 h
def ki (x0 x2 x7 x8 x37 x38 x39:LV) (R:LV.RT) (st:aa):Prop:=LTg Tryz.prog (kindOf false) [.cell 2 37,.tmp 3] (bg Tryz.f82 8) [] R (x0::.aN::x2::(LV.jk 4 (x7::x8::(LV.jk 28 (x37::x38::x39::(LV.jk 27 [])))))) st
def Aw (x2 x3:LV) (R:LV.RT) (st:aa):Prop:=LTg Tryz.prog (kindOf false) [.cell 2 37,.tmp 3] (bg Tryz.f82 23) [] R (.aN::.aN::x2::x3::(LV.jk 63 [])) st
def LY:List Nat:=(LV.gx 1 66 [2,7,8,37,38,39])
def L1:List (Nat × List Nat):=[(19,(LV.gx 0 67 [2,3]))]
def w82 (a0:LV) (R:LV.RT) (st:aa):Prop:=
 nw st [LV.str [],LV.nilp,LV.bool false,LV.bool false,LV.bool false,LV.bool false] fun v0 oF=>LZ 146 [a0,LV.str [32]] oF fun v2 eQ=>bd (bo v2) fun v4=>bd (ak BinOp.lss v4 (i64 3)) fun v5=>al v5
 (bd (aL (ao (ay [(0,1),(1,1),(2,1),(3,1),(4,1),(5,1)]) [LV.str [],LV.nilp,LV.bool false,LV.bool false,LV.bool false,LV.bool false] [])) fun v6=>bd2 (lmk (stV eQ 6 v0 v6)) fun _ iS=>bd (ldA iS v0 6) fun v9=>R (LV.tup [v9,LV.bool false]) iS)
 (bd (aR 1 v2 (i64 0)) fun oR=>bd (ld1 eQ oR) fun rW=>bd (bG BinOp.neq rW (LV.str [97,116,116,114])) fun aS=>al aS
 (bd (aL (ao (ay [(0,1),(1,1),(2,1),(3,1),(4,1),(5,1)]) [LV.str [],LV.nilp,LV.bool false,LV.bool false,LV.bool false,LV.bool false] [])) fun aT=>bd2 (lmk (stV eQ 6 v0 aT)) fun _ gE=>bd (ldA gE v0 6) fun bY=>R (LV.tup [bY,LV.bool false]) gE)
 (bd (aR 1 v2 (i64 2)) fun c7=>bd (ld1 eQ c7) fun dO=>LZ 18 [dO] eQ fun iF gT=>bd (ai iF 0) fun lE=>bd (ai iF 1) fun _=>bd (ai iF 2) fun lT=>bd (aR 1 v2 (i64 1)) fun p7=>bd (ld1 gT p7) fun p8=>bd
 (aL
 (ao (ay [(0,1),(1,1),(2,1),(3,1),(4,1),(5,1)]) [LV.str [],LV.nilp,LV.bool false,LV.bool false,LV.bool false,LV.bool false]
 [(0,p8),(1,lE)]))
 fun p9=>nw gT [LV.str [],LV.nilp,LV.bool false,LV.bool false,LV.bool false,LV.bool false] fun mK iN=>bd2 (lmk (stV iN 6 mK p9)) fun _ iD=>bd (ob3 (some (i64 3)) none none fun l h m=>aO iD 1 v2 l h m) fun nE=>bd (bo nE) fun tO=>ki a0 v0 lT mK nE tO (i64 0) R iD))
theorem c82 (a0:LV) {R:LV.RT} {st:aa} (h:w82 a0 R st):LZ 82 [a0] st R:=
 cz LY L1 [.cell 2 37,.tmp 3] Tryz.func82 h
def CA (x0 x2 x7 x8 x37 x38 x39:LV) (R:LV.RT) (st:aa):Prop:=
 bd (ak BinOp.lss x39 x38) fun v0=>al v0
 (bd (aR 1 x37 x39) fun v1=>bd (ld1 st v1) fun v2=>bd (bG BinOp.eql v2 (LV.str [109,117,115,116])) fun v3=>al v3 (bd (ad 2 x8) fun v4=>bd2 (lmk (stV st 1 v4 (LV.bool true))) fun _ mK=>bd (ak BinOp.add x39 (i64 1)) fun v7=>ki x0 x2 x7 x8 x37 x38 v7 R mK)
 (bd (bG BinOp.eql v2 (LV.str [111,119,110])) fun v8=>al v8 (bd (ad 3 x8) fun v9=>bd2 (lmk (stV st 1 v9 (LV.bool true))) fun _ gE=>bd (ak BinOp.add x39 (i64 1)) fun nE=>ki x0 x2 x7 x8 x37 x38 nE R gE)
 (bd (bG BinOp.eql v2 (LV.str [104,105,100,101])) fun oF=>al oF
 (bd (ad 4 x8) fun oR=>bd2 (lmk (stV st 1 oR (LV.bool true))) fun _ gT=>bd (ak BinOp.add x39 (i64 1)) fun rW=>ki x0 x2 x7 x8 x37 x38 rW R gT)
 (bd (bG BinOp.eql v2 (LV.str [110,101,119])) fun aS=>al aS
 (bd (ad 5 x8) fun aT=>bd2 (lmk (stV st 1 aT (LV.bool true))) fun _ iD=>bd (ak BinOp.add x39 (i64 1)) fun bY=>ki x0 x2 x7 x8 x37 x38 bY R iD)
 (bd (ak BinOp.add x39 (i64 1)) fun c7=>ki x0 x2 x7 x8 x37 x38 c7 R st)))))
 (bd (ldA st x8 6) fun iF=>bd (ak BinOp.eql x7 (i64 0)) fun dO=>al dO
 (bd (ldA st x8 6) fun lE=>bd (bG BinOp.add x0 (LV.str [10])) fun lT=>LZ 84 [lE] st fun p7 eQ=>ldA eQ x8 6=some iF∧bd (bG BinOp.eql p7 lT) fun p8=>bd2 (lmk (stV eQ 6 x2 iF)) fun _ iN=>Aw x2 p8 R iN)
 (bd2 (lmk (stV st 6 x2 iF)) fun _ iS=>Aw x2 (LV.bool false) R iS))
theorem F7 (x0 x2 x7 x8 x37 x38 x39:LV) {R:LV.RT} {st:aa} (h:CA x0 x2 x7 x8 x37 x38 x39 R st):ki x0 x2 x7 x8 x37 x38 x39 R st:=
 pz LY L1 h
def Ax (x2 x3:LV) (R:LV.RT) (st:aa):Prop:=
 bd (ldA st x2 6) fun v0=>R (LV.tup [v0,x3]) st
theorem F9 (x2 x3:LV) {R:LV.RT} {st:aa} (h:Ax x2 x3 R st):Aw x2 x3 R st:=
 pz LY L1 h
def Ks (x2:LV) (R:LV.RT) (st:aa):Prop:=LTg Tryz.prog (kindOf false) [.tmp 2] (bg Tryz.f84 1) [] R (.aN::.aN::x2::(LV.jk 12 [])) st
def NK:List (Nat × List Nat):=[(1,(LV.gx 0 15 [2]))]
def w84 (a0:LV) (R:LV.RT) (st:aa):Prop:=
 bd2 (b8 st a0) fun v0 gT=>bd (ad 0 v0) fun v2=>bd (ld1 gT v2) fun v3=>bd (bG BinOp.add (LV.str [97,116,116,114,32]) v3) fun v4=>bd (bG BinOp.add v4 (LV.str [32])) fun v5=>bd (ad 1 v0) fun v6=>bd (ld1 gT v6) fun v7=>bd (ldA gT v0 6) fun v8=>LZ 38 [v7] gT fun v9 eQ=>ldA eQ v0 6=some v8∧
 ld1 eQ v2=some v3∧
 bd (bG BinOp.add v5 v9) fun iD=>LZ 148 [v8] eQ fun iF gE=>ld1 gE v2=some v3∧bd (bG BinOp.add iD iF) fun iN=>bd (bG BinOp.add iN (LV.str [10])) fun iS=>Ks iS R gE
theorem c84 (a0:LV) {R:LV.RT} {st:aa} (h:w84 a0 R st):LZ 84 [a0] st R:=
 cz [] NK [.tmp 2] Tryz.func84 h
def NL (x2:LV) (R:LV.RT) (st:aa):Prop:=
 R x2 st
theorem NM (x2:LV) {R:LV.RT} {st:aa} (h:NL x2 R st):Ks x2 R st:=
 pz [] NK h
def vJ (x3 x14 x15:LV) (R:LV.RT) (st:aa):Prop:=LTg Tryz.prog (kindOf false) [.tmp 2] (bg Tryz.f148 4) [] R (LV.jk 3 (x3::(LV.jk 10 (x14::x15::(LV.jk 11 []))))) st
def Kt:List Nat:=(LV.gx 0 27 [3,14,15])
def OV (a0:LV) (R:LV.RT) (st:aa):Prop:=
 bd2 (b8 st a0) fun v0 eQ=>bd (ad 2 v0) fun v2=>bd (ld1 eQ v2) fun v3=>bd (ad 3 v0) fun v4=>bd (ld1 eQ v4) fun v5=>bd (ad 4 v0) fun v6=>bd (ld1 eQ v6) fun v7=>bd (ad 5 v0) fun v8=>bd (ld1 eQ v8) fun v9=>bd (aL (ao (fun i=>some (i*1,1)) [LV.bool false,LV.bool false,LV.bool false,LV.bool false] [(0,v3),(1,v5),(2,v7),(3,v9)])) fun gE=>vJ (LV.str []) gE (i64 0) R eQ
theorem c148 (a0:LV) {R:LV.RT} {st:aa} (h:OV a0 R st):LZ 148 [a0] st R:=
 cz Kt [] [.tmp 2] Tryz.func148 h
def L2 (x3 x14 x15:LV) (R:LV.RT) (st:aa):Prop:=
 bd (ak BinOp.lss x15 (i64 4)) fun v0=>al v0
 (bd (q8 4 (fun x j=>DD (j*1) x) x14 x15) fun v1=>al v1
 (bd
 (aL
 (ao (fun i=>some (i*1,1)) [LV.str [],LV.str [],LV.str [],LV.str []]
 [(0,LV.str [32,109,117,115,116]),(1,LV.str [32,111,119,110]),(2,LV.str [32,104,105,100,101]),(3,LV.str [32,110,101,119])]))
 fun v2=>bd (q8 4 (fun x j=>DD (j*1) x) v2 x15) fun v3=>bd (bG BinOp.add x3 v3) fun v4=>bd (ak BinOp.add x15 (i64 1)) fun v5=>vJ v4 x14 v5 R st)
 (bd (ak BinOp.add x15 (i64 1)) fun v6=>vJ x3 x14 v6 R st))
 (R x3 st)
theorem sf (x3 x14 x15:LV) {R:LV.RT} {st:aa} (h:L2 x3 x14 x15 R st):vJ x3 x14 x15 R st:=
 pz Kt [] h
def w78 (a0:LV) (R:LV.RT) (st:aa):Prop:=
 bd (eqB BinOp.eql (qX a0 LV.nils)) fun v0=>al v0 (R LV.nils st)
 (bd2 (aP st 0 (ao (fun i=>some (i*6,6)) (List.replicate 0 [LV.str [],LV.nilp,LV.bool false,LV.bool false,LV.bool false,LV.bool false]).flatten [])) fun v1 eQ=>bd2 (ar eQ 6 32 Md.rw v1 a0) fun v3 gE=>R v3 gE)
theorem c78 (a0:LV) {R:LV.RT} {st:aa} (h:w78 a0 R st):LZ 78 [a0] st R:=
 cz [] [] [.tmp 2] Tryz.func78 h
def yj (x3 x25 x26 x27:LV) (R:LV.RT) (st:aa):Prop:=LTg Tryz.prog (kindOf false) [.tmp 4,.tmp 5] (bg Tryz.f41 6) [] R (LV.jk 3 (x3::(LV.jk 21 (x25::x26::x27::(LV.jk 20 []))))) st
def NN:List Nat:=(LV.gx 0 48 [3,25,26,27])
def w41 (a0 a1:LV) (R:LV.RT) (st:aa):Prop:=
 bd2 (b8 st a1) fun v0 gE=>bd (ldA gE v0 1) fun v2=>LZ 110 [a0,v2] gE fun v3 eQ=>bd (ai v3 0) fun v5=>bd (ai v3 1) fun v6=>bd (ak BinOp.neq v6 (i64 0)) fun v7=>al v7 (R (LV.tup [v5,v6]) eQ) (bd (aj a0) fun v8=>bd (ad 1 v8) fun v9=>bd (ld1 eQ v9) fun gT=>bd (bo gT) fun iD=>yj v0 gT iD (i64 0) R eQ)
theorem c41 (a0 a1:LV) {R:LV.RT} {st:aa} (h:w41 a0 a1 R st):LZ 41 [a0,a1] st R:=
 cz NN [] [.tmp 4,.tmp 5] Tryz.func41 h
def Ga (x3 x25 x26 x27:LV) (R:LV.RT) (st:aa):Prop:=
 bd (ak BinOp.lss x27 x26) fun v0=>al v0
 (bd (aR 6 x25 x27) fun v1=>bd (ldA st v1 6) fun v2=>nw st [LV.str [],LV.nilp,LV.bool false,LV.bool false,LV.bool false,LV.bool false] fun v3 mK=>bd2 (lmk (stV mK 6 v3 v2)) fun _ gT=>bd (ldA gT x3 1) fun v7=>bd (ad 0 v3) fun v8=>bd (ld1 gT v8) fun v9=>LZ 50 [v7,v9] gT fun iN iD=>bd (ai iN 0) fun nE=>bd (ai iN 1) fun _=>nw iD [LV.nili] fun iS iF=>bd2 (lmk (stV iF 1 iS nE)) fun _ eQ=>bd (ad 2 v3) fun oF=>bd (ld1 eQ oF) fun oR=>al oR
 (bd (ldA eQ iS 1) fun rW=>LZ 46 [rW] eQ fun aS gE=>bd (ak BinOp.eql aS (i64 0)) fun aT=>al aT (bd (ad 0 v3) fun bY=>bd (ld1 gE bY) fun c7=>R (LV.tup [c7,i64 8]) gE)
 (bd (ak BinOp.add x27 (i64 1)) fun dO=>yj x3 x25 x26 dO R gE))
 (bd (ak BinOp.add x27 (i64 1)) fun lE=>yj x3 x25 x26 lE R eQ))
 (R (LV.tup [LV.str [],i64 0]) st)
theorem Ku (x3 x25 x26 x27:LV) {R:LV.RT} {st:aa} (h:Ga x3 x25 x26 x27 R st):yj x3 x25 x26 x27 R st:=
 pz NN [] h
def CB (x3 x4 x8 x9 x27 x28 x29:LV) (R:LV.RT) (st:aa):Prop:=LTg Tryz.prog (kindOf false) [.cell 4 57,.tmp 5] (bg Tryz.f42 8) [] R (LV.jk 3 (x3::x4::(LV.jk 3 (x8::x9::(LV.jk 17 (x27::x28::x29::(LV.jk 33 []))))))) st
def eS (x3 x4 x8 x9 x27 x28 x29:LV) (R:LV.RT) (st:aa):Prop:=LTg Tryz.prog (kindOf false) [.cell 4 57,.tmp 5] (bg Tryz.f42 15) [] R (LV.jk 3 (x3::x4::(LV.jk 3 (x8::x9::(LV.jk 17 (x27::x28::x29::(LV.jk 33 []))))))) st
def L3:List Nat:=(LV.gx 0 63 [3,4,8,9,27,28,29])
def L4:List (Nat × List Nat):=[(12,(LV.gx 0 63 [3,4,8,9,27,28,29]))]
def w42 (a0 a1:LV) (R:LV.RT) (st:aa):Prop:=
 bd2 (b8 st a1) fun v0 iN=>nw iN [LV.nili] fun v2 iD=>bd (ldA iD v0 1) fun v4=>LZ 41 [a0,v4] iD fun v5 gE=>bd (ai v5 0) fun _=>bd (ai v5 1) fun v8=>bd (ak BinOp.neq v8 (i64 0)) fun v9=>al v9 (LZ 66 [] gE fun iS gT=>bd2 (lmk (stV gT 1 v2 iS)) fun _ eQ=>bd (ldA eQ v2 1) fun mK=>R (LV.tup [mK,v8]) eQ)
 (bd (aj a0) fun nE=>bd (ad 1 nE) fun oF=>bd (ld1 gE oF) fun iF=>bd (bo iF) fun oR=>CB v0 v2 LV.nils LV.nils iF oR (i64 0) R gE)
theorem c42 (a0 a1:LV) {R:LV.RT} {st:aa} (h:w42 a0 a1 R st):LZ 42 [a0,a1] st R:=
 cz L3 L4 [.cell 4 57,.tmp 5] Tryz.func42 h
def Gb (x3 x4 x8 x9 x27 x28 x29:LV) (R:LV.RT) (st:aa):Prop:=
 bd (ak BinOp.lss x29 x28) fun v0=>al v0
 (bd (aR 6 x27 x29) fun v1=>bd (ldA st v1 6) fun v2=>nw st [LV.str [],LV.nilp,LV.bool false,LV.bool false,LV.bool false,LV.bool false] fun v3 st4=>bd2 (lmk (stV st4 6 v3 v2)) fun _v5 st6=>bd (ldA st6 x3 1) fun v7=>bd (ad 0 v3) fun v8=>bd (ld1 st6 v8) fun v9=>LZ 50 [v7,v9] st6 fun v10 st11=>bd (ai v10 0) fun v12=>bd (ai v10 1) fun _v13=>nw st11 [LV.nili] fun eQ st15=>bd2 (lmk (stV st15 1 eQ v12)) fun _v16 gE=>bd (ad 3 v3) fun v18=>bd (ld1 gE v18) fun v19=>al v19
 (bd (ldA gE eQ 1) fun v20=>LZ 46 [v20] gE fun v21 gT=>bd (ak BinOp.eql v21 (i64 0)) fun v23=>al v23
 (LZ 69 [] gT fun v24 st25=>bd2 (lmk (stV st25 1 eQ v24)) fun _v26 iD=>bd (ad 0 v3) fun v28=>bd (ld1 iD v28) fun aS=>bd (ldA iD eQ 1) fun iF=>(bd2 (aP iD 1 (ao (fun i=>some (i*1,1)) (List.replicate 1 [LV.nili]).flatten [(0,iF)])) fun v31 aT=>ld1 aT v28=some aS∧
 bd2 (aP aT 1 (ao (fun i=>some (i*1,1)) (List.replicate 1 [LV.str []]).flatten [(0,aS)])) fun v33 bY=>ldA bY eQ 1=some iF∧
 bd2 (ar bY 1 16 Md.rw x8 v33) fun v35 c7=>ldA c7 eQ 1=some iF∧bd2 (ar c7 1 16 Md.rw x9 v31) fun v37 st38=>eS x3 x4 v35 v37 x27 x28 x29 R st38)∧
 bd2 (aP iD 1 (ao (fun i=>some (i*1,1)) (List.replicate 1 [LV.str []]).flatten [(0,aS)])) fun v39 oF=>ldA oF eQ 1=some iF∧
 (bd2 (aP oF 1 (ao (fun i=>some (i*1,1)) (List.replicate 1 [LV.nili]).flatten [(0,iF)])) fun v41 dO=>ld1 dO v28=some aS∧
 bd2 (ar dO 1 16 Md.rw x8 v39) fun v43 lE=>ldA lE eQ 1=some iF∧bd2 (ar lE 1 16 Md.rw x9 v41) fun v45 st46=>eS x3 x4 v43 v45 x27 x28 x29 R st46)∧
 bd2 (ar oF 1 16 Md.rw x8 v39) fun v47 lT=>ldA lT eQ 1=some iF∧
 bd2 (aP lT 1 (ao (fun i=>some (i*1,1)) (List.replicate 1 [LV.nili]).flatten [(0,iF)])) fun v49 p7=>ld1 p7 v28=some aS∧bd2 (ar p7 1 16 Md.rw x9 v49) fun v51 st52=>eS x3 x4 v47 v51 x27 x28 x29 R st52)
 (bd (ad 0 v3) fun v53=>bd (ld1 gT v53) fun p8=>bd (ldA gT eQ 1) fun iN=>(bd2 (aP gT 1 (ao (fun i=>some (i*1,1)) (List.replicate 1 [LV.nili]).flatten [(0,iN)])) fun v56 p9=>ld1 p9 v53=some p8∧
 bd2 (aP p9 1 (ao (fun i=>some (i*1,1)) (List.replicate 1 [LV.str []]).flatten [(0,p8)])) fun v58 tO=>ldA tO eQ 1=some iN∧
 bd2 (ar tO 1 16 Md.rw x8 v58) fun v60 st61=>ldA st61 eQ 1=some iN∧bd2 (ar st61 1 16 Md.rw x9 v56) fun v62 st63=>eS x3 x4 v60 v62 x27 x28 x29 R st63)∧
 bd2 (aP gT 1 (ao (fun i=>some (i*1,1)) (List.replicate 1 [LV.str []]).flatten [(0,p8)])) fun v64 oR=>ldA oR eQ 1=some iN∧
 (bd2 (aP oR 1 (ao (fun i=>some (i*1,1)) (List.replicate 1 [LV.nili]).flatten [(0,iN)])) fun v66 st67=>ld1 st67 v53=some p8∧
 bd2 (ar st67 1 16 Md.rw x8 v64) fun v68 st69=>ldA st69 eQ 1=some iN∧bd2 (ar st69 1 16 Md.rw x9 v66) fun v70 st71=>eS x3 x4 v68 v70 x27 x28 x29 R st71)∧
 bd2 (ar oR 1 16 Md.rw x8 v64) fun v72 st73=>ldA st73 eQ 1=some iN∧
 bd2 (aP st73 1 (ao (fun i=>some (i*1,1)) (List.replicate 1 [LV.nili]).flatten [(0,iN)])) fun v74 st75=>ld1 st75 v53=some p8∧bd2 (ar st75 1 16 Md.rw x9 v74) fun v76 st77=>eS x3 x4 v72 v76 x27 x28 x29 R st77))
 (bd (ad 0 v3) fun v78=>bd (ld1 gE v78) fun v79=>bd (ldA gE eQ 1) fun iS=>(bd2 (aP gE 1 (ao (fun i=>some (i*1,1)) (List.replicate 1 [LV.nili]).flatten [(0,iS)])) fun v81 st82=>ld1 st82 v78=some v79∧
 bd2 (aP st82 1 (ao (fun i=>some (i*1,1)) (List.replicate 1 [LV.str []]).flatten [(0,v79)])) fun v83 st84=>ldA st84 eQ 1=some iS∧
 bd2 (ar st84 1 16 Md.rw x8 v83) fun v85 st86=>ldA st86 eQ 1=some iS∧bd2 (ar st86 1 16 Md.rw x9 v81) fun v87 st88=>eS x3 x4 v85 v87 x27 x28 x29 R st88)∧
 bd2 (aP gE 1 (ao (fun i=>some (i*1,1)) (List.replicate 1 [LV.str []]).flatten [(0,v79)])) fun v89 rW=>ldA rW eQ 1=some iS∧
 (bd2 (aP rW 1 (ao (fun i=>some (i*1,1)) (List.replicate 1 [LV.nili]).flatten [(0,iS)])) fun v91 st92=>ld1 st92 v78=some v79∧
 bd2 (ar st92 1 16 Md.rw x8 v89) fun v93 st94=>ldA st94 eQ 1=some iS∧bd2 (ar st94 1 16 Md.rw x9 v91) fun v95 st96=>eS x3 x4 v93 v95 x27 x28 x29 R st96)∧
 bd2 (ar rW 1 16 Md.rw x8 v89) fun v97 st98=>ldA st98 eQ 1=some iS∧
 bd2 (aP st98 1 (ao (fun i=>some (i*1,1)) (List.replicate 1 [LV.nili]).flatten [(0,iS)])) fun v99 mK=>ld1 mK v78=some v79∧bd2 (ar mK 1 16 Md.rw x9 v99) fun v101 st102=>eS x3 x4 v97 v101 x27 x28 x29 R st102))
 (LZ 72 [x8,x9] st fun v103 st104=>bd (ai v103 0) fun v105=>bd (ai v103 1) fun v106=>bd2 (lmk (stV st104 1 x4 v105)) fun _v107 nE=>bd (ldA nE x4 1) fun v109=>R (LV.tup [v109,v106]) nE)
theorem Kv (x3 x4 x8 x9 x27 x28 x29:LV) {R:LV.RT} {st:aa} (h:Gb x3 x4 x8 x9 x27 x28 x29 R st):CB x3 x4 x8 x9 x27 x28 x29 R st:=
 pz L3 L4 h
def Gc (x3 x4 x8 x9 x27 x28 x29:LV) (R:LV.RT) (st:aa):Prop:=
 bd (ak BinOp.add x29 (i64 1)) fun v0=>CB x3 x4 x8 x9 x27 x28 v0 R st
theorem L5 (x3 x4 x8 x9 x27 x28 x29:LV) {R:LV.RT} {st:aa} (h:Gc x3 x4 x8 x9 x27 x28 x29 R st):eS x3 x4 x8 x9 x27 x28 x29 R st:=
 pz L3 L4 h
def CC (x3 x25 x26 x27:LV) (R:LV.RT) (st:aa):Prop:=LTg Tryz.prog (kindOf false) [.tmp 4,.tmp 5] (bg Tryz.f43 6) [] R (LV.jk 3 (x3::(LV.jk 21 (x25::x26::x27::(LV.jk 15 []))))) st
def NO:List Nat:=(LV.gx 0 43 [3,25,26,27])
def w43 (a0 a1:LV) (R:LV.RT) (st:aa):Prop:=
 bd2 (b8 st a1) fun v0 gE=>bd (ldA gE v0 1) fun v2=>LZ 110 [a0,v2] gE fun v3 eQ=>bd (ai v3 0) fun v5=>bd (ai v3 1) fun v6=>bd (ak BinOp.neq v6 (i64 0)) fun v7=>al v7 (R (LV.tup [v5,v6]) eQ) (bd (aj a0) fun v8=>bd (ad 1 v8) fun v9=>bd (ld1 eQ v9) fun gT=>bd (bo gT) fun iD=>CC v0 gT iD (i64 0) R eQ)
theorem c43 (a0 a1:LV) {R:LV.RT} {st:aa} (h:w43 a0 a1 R st):LZ 43 [a0,a1] st R:=
 cz NO [] [.tmp 4,.tmp 5] Tryz.func43 h
def Gd (x3 x25 x26 x27:LV) (R:LV.RT) (st:aa):Prop:=
 bd (ak BinOp.lss x27 x26) fun v0=>al v0
 (bd (aR 6 x25 x27) fun v1=>bd (ldA st v1 6) fun v2=>nw st [LV.str [],LV.nilp,LV.bool false,LV.bool false,LV.bool false,LV.bool false] fun v3 iN=>bd2 (lmk (stV iN 6 v3 v2)) fun _ gE=>bd (ldA gE x3 1) fun v7=>bd (ad 0 v3) fun v8=>bd (ld1 gE v8) fun v9=>LZ 50 [v7,v9] gE fun iF gT=>bd (ai iF 0) fun iS=>bd (ai iF 1) fun mK=>nw gT [LV.nili] fun nE iD=>bd2 (lmk (stV iD 1 nE iS)) fun _ eQ=>bd (lun UnOp.not mK) fun oF=>al oF (bd (ad 0 v3) fun oR=>bd (ld1 eQ oR) fun rW=>R (LV.tup [rW,i64 8]) eQ)
 (bd (ak BinOp.add x27 (i64 1)) fun aS=>CC x3 x25 x26 aS R eQ))
 (R (LV.tup [LV.str [],i64 0]) st)
theorem Kw (x3 x25 x26 x27:LV) {R:LV.RT} {st:aa} (h:Gd x3 x25 x26 x27 R st):CC x3 x25 x26 x27 R st:=
 pz NO [] h
def vK (x0 x6 x21 x22 x23:LV) (R:LV.RT) (st:aa):Prop:=LTg Tryz.prog (kindOf false) [.tmp 4,.tmp 5] (bg Tryz.f110 9) [] R (x0::(LV.jk 5 (x6::(LV.jk 14 (x21::x22::x23::(LV.jk 25 [])))))) st
def Kx:List Nat:=(LV.gx 1 48 [6,21,22,23])
def L6 (a0 a1:LV) (R:LV.RT) (st:aa):Prop:=
 bd2 (b8 st a1) fun v0 eQ=>bd (eqB BinOp.eql (dW true a0 LV.nilp)) fun v2=>al v2 (R (LV.tup [LV.str [],i64 11]) eQ)
 (bd (ldA eQ v0 1) fun v3=>LZ 46 [v3] eQ fun v4 gE=>bd (ak BinOp.neq v4 (i64 7)) fun v6=>al v6 (R (LV.tup [LV.str [],i64 6]) gE)
 (bd (ldA gE v0 1) fun v7=>LZ 101 [v7] gE fun v8 iD=>bd (ldA iD v0 1) fun iN=>LZ 49 [iN] iD fun iF gT=>bd (bo iF) fun iS=>vK a0 v8 iF iS (i64 0) R gT))
theorem NP (a0 a1:LV) {R:LV.RT} {st:aa} (h:L6 a0 a1 R st):LZ 110 [a0,a1] st R:=
 cz Kx [] [.tmp 4,.tmp 5] Tryz.func110 h
def Ay (x0 x6 x21 x22 x23:LV) (R:LV.RT) (st:aa):Prop:=
 bd (ak BinOp.lss x23 x22) fun v0=>al v0
 (bd (aR 1 x21 x23) fun v1=>bd (ld1 st v1) fun v2=>LZ 39 [x0,v2] st fun v3 gT=>bd (ai v3 0) fun v5=>bd (ai v3 1) fun v6=>nw gT [LV.str [],LV.nilp,LV.bool false,LV.bool false,LV.bool false,LV.bool false] fun v7 iD=>bd2 (lmk (stV iD 6 v7 v5)) fun _ eQ=>bd (lun UnOp.not v6) fun iF=>al iF (R (LV.tup [v2,i64 7]) eQ)
 (bd (ad 1 v7) fun iN=>bd (ld1 eQ iN) fun iS=>bd (aR 1 x6 x23) fun mK=>bd (ldA eQ mK 1) fun nE=>LZ 53 [iS,nE] eQ fun oF gE=>bd (lun UnOp.not oF) fun oR=>al oR (R (LV.tup [v2,i64 6]) gE) (bd (ak BinOp.add x23 (i64 1)) fun rW=>vK x0 x6 x21 x22 rW R gE)))
 (R (LV.tup [LV.str [],i64 0]) st)
theorem Gf (x0 x6 x21 x22 x23:LV) {R:LV.RT} {st:aa} (h:Ay x0 x6 x21 x22 x23 R st):vK x0 x6 x21 x22 x23 R st:=
 pz Kx [] h
def ed (x0 x2 x5 x6 x7 x8 x9 x10 x11:LV) (R:LV.RT) (st:aa):Prop:=LTg Tryz.prog (kindOf false) [.cell 2 52,.tmp 3,.tmp 4] (bg Tryz.f35 5) [] R (x0::.aN::x2::.aN::.aN::x5::x6::x7::x8::x9::x10::x11::(LV.jk 129 [])) st
def pj (x0 x2 x5 x6 x7 x8 x9 x10 x11:LV) (R:LV.RT) (st:aa):Prop:=LTg Tryz.prog (kindOf false) [.cell 2 52,.tmp 3,.tmp 4] (bg Tryz.f35 16) [] R (x0::.aN::x2::.aN::.aN::x5::x6::x7::x8::x9::x10::x11::(LV.jk 129 [])) st
def L7:List Nat:=(LV.gx 1 140 [2,5,6,7,8,9,10,11])
def w35 (a0:LV) (R:LV.RT) (st:aa):Prop:=
 nw st [i64 0,LV.nils] fun v0 eQ=>nw eQ [i64 0,LV.nils] fun v2 gE=>ed a0 v0 v2 (i64 0) (i64 0) (i64 0) (LV.tup []) (LV.tup []) (LV.tup []) R gE
theorem c35 (a0:LV) {R:LV.RT} {st:aa} (h:w35 a0 R st):LZ 35 [a0] st R:=
 cz L7 [] [.cell 2 52,.tmp 3,.tmp 4] Tryz.func35 h
def yk (x0 x2 x5 x6 x7 x8 x9 x10 x11:LV) (R:LV.RT) (st:aa):Prop:=
 bd (bJ x0) fun v0=>bd (ak BinOp.lss x8 v0) fun v1=>al v1
 (bd (cv x0 x8) fun v2=>bd (ak BinOp.neq v2 (LV.int IntKind.u8 10)) fun v3=>al v3 (bd (ak BinOp.add x8 (i64 1)) fun v4=>ed x0 x2 x5 x6 x7 v4 x9 x10 x11 R st)
 (bd (ob3 (some x6) (some x8) none fun l h m=>cF x0 l h m) fun v5=>bd (ak BinOp.add x8 (i64 1)) fun v6=>bd (ak BinOp.add x7 (i64 1)) fun v7=>bd (ak BinOp.eql v7 (i64 1)) fun v8=>al v8 (pj x0 x2 x5 v6 v7 x8 v5 (i64 (-1)) (i64 0) R st)
 (LZ 106 [v5] st fun v9 st10=>bd (ai v9 0) fun v11=>bd (ai v9 1) fun v12=>nw st10 [LV.str [],LV.str [],i64 0,LV.nils,LV.nils,LV.nils,LV.bool false,LV.bool false,LV.bool false,LV.bool false] fun gE st14=>bd2 (lmk (stV st14 10 gE v11)) fun _v15 gT=>bd (lun UnOp.not v12) fun v17=>al v17
 (bd (aL (ao (ay [(0,1),(1,1)]) [i64 0,LV.nils] [])) fun v18=>bd2 (lmk (stV gT 2 x2 v18)) fun _v19 rW=>bd (ldA rW x2 2) fun v21=>R (LV.tup [v21,v7,i64 4]) rW)
 (bd (ad 1 x5) fun v22=>bd (ld1 gT v22) fun v23=>bd (bo v23) fun oR=>bd (ak BinOp.eql oR (i64 16)) fun v25=>al v25
 (bd (aL (ao (ay [(0,1),(1,1)]) [i64 0,LV.nils] [])) fun v26=>bd2 (lmk (stV gT 2 x2 v26)) fun _v27 aS=>bd (ldA aS x2 2) fun v29=>R (LV.tup [v29,v7,i64 3]) aS)
 (bd (ad 0 gE) fun v30=>bd (ld1 gT v30) fun v31=>LZ 19 [v31] gT fun v32 eQ=>bd (lun UnOp.not v32) fun v34=>al v34
 (bd (aL (ao (ay [(0,1),(1,1)]) [i64 0,LV.nils] [])) fun v35=>bd2 (lmk (stV eQ 2 x2 v35)) fun _v36 aT=>bd (ldA aT x2 2) fun v38=>R (LV.tup [v38,v7,i64 7]) aT)
 (bd (ak BinOp.gtr oR (i64 0)) fun v39=>al v39
 (bd (ad 0 gE) fun v40=>bd (ld1 eQ v40) fun v41=>bd (ad 1 x5) fun v42=>bd (ld1 eQ v42) fun v43=>bd (ak BinOp.sub oR (i64 1)) fun v44=>bd (aR 10 v43 v44) fun v45=>bd (ad 0 v45) fun v46=>bd (ld1 eQ v46) fun v47=>bd (bG BinOp.eql v41 v47) fun v48=>al v48
 (bd (aL (ao (ay [(0,1),(1,1)]) [i64 0,LV.nils] [])) fun v49=>bd2 (lmk (stV eQ 2 x2 v49)) fun _v50 bY=>bd (ldA bY x2 2) fun v52=>R (LV.tup [v52,v7,i64 9]) bY)
 (bd (ak BinOp.gtr oR (i64 0)) fun v53=>al v53
 (bd (ad 0 gE) fun v54=>bd (ld1 eQ v54) fun v55=>bd (ad 1 x5) fun v56=>bd (ld1 eQ v56) fun v57=>bd (ak BinOp.sub oR (i64 1)) fun v58=>bd (aR 10 v57 v58) fun v59=>bd (ad 0 v59) fun v60=>bd (ld1 eQ v60) fun v61=>bd (bG BinOp.lss v55 v61) fun v62=>al v62
 (bd (aL (ao (ay [(0,1),(1,1)]) [i64 0,LV.nils] [])) fun v63=>bd2 (lmk (stV eQ 2 x2 v63)) fun _v64 c7=>bd (ldA c7 x2 2) fun v66=>R (LV.tup [v66,v7,i64 4]) c7)
 (bd (ad 6 gE) fun v67=>bd (ld1 eQ v67) fun v68=>al v68
 (bd (ad 7 gE) fun v69=>bd (ld1 eQ v69) fun v70=>al v70
 (bd (aL (ao (ay [(0,1),(1,1)]) [i64 0,LV.nils] []))
 fun v71=>bd2 (lmk (stV eQ 2 x2 v71)) fun _v72 dO=>bd (ldA dO x2 2) fun v74=>R (LV.tup [v74,v7,i64 1]) dO)
 (bd (ad 1 x5) fun v75=>bd (ld1 eQ v75) fun v76=>bd (ldA eQ gE 10) fun v77=>bd2
 (aP eQ 1
 (ao (fun i=>some (i*10,10))
 (List.replicate 1
 [LV.str [],LV.str [],i64 0,LV.nils,LV.nils,
 LV.nils,LV.bool false,LV.bool false,LV.bool false,
 LV.bool false]).flatten
 [(0,v77)]))
 fun v78 st79=>bd2 (ar st79 10 120 Md.rw v76 v78) fun v80 st81=>bd (ad 1 x5) fun v82=>bd2 (lmk (stV st81 1 v82 v80)) fun _v83 st84=>bd (ak BinOp.add x8 (i64 1)) fun v85=>ed x0 x2 x5 v6 v7 v85 v5 x10 x11 R st84))
 (bd (ad 1 x5) fun v86=>bd (ld1 eQ v86) fun v87=>bd (ldA eQ gE 10) fun v88=>bd2
 (aP eQ 1
 (ao (fun i=>some (i*10,10))
 (List.replicate 1
 [LV.str [],LV.str [],i64 0,LV.nils,LV.nils,LV.nils,
 LV.bool false,LV.bool false,LV.bool false,LV.bool false]).flatten
 [(0,v88)]))
 fun v89 st90=>bd2 (ar st90 10 120 Md.rw v87 v89) fun v91 st92=>bd (ad 1 x5) fun v93=>bd2 (lmk (stV st92 1 v93 v91)) fun _v94 st95=>bd (ak BinOp.add x8 (i64 1)) fun v96=>ed x0 x2 x5 v6 v7 v96 v5 x10 x11 R st95)))
 (bd (ad 6 gE) fun v97=>bd (ld1 eQ v97) fun v98=>al v98
 (bd (ad 7 gE) fun v99=>bd (ld1 eQ v99) fun v100=>al v100
 (bd (aL (ao (ay [(0,1),(1,1)]) [i64 0,LV.nils] [])) fun v101=>bd2 (lmk (stV eQ 2 x2 v101)) fun _v102 iD=>bd (ldA iD x2 2) fun v104=>R (LV.tup [v104,v7,i64 1]) iD)
 (bd (ad 1 x5) fun v105=>bd (ld1 eQ v105) fun v106=>bd (ldA eQ gE 10) fun v107=>bd2
 (aP eQ 1
 (ao (fun i=>some (i*10,10))
 (List.replicate 1
 [LV.str [],LV.str [],i64 0,LV.nils,LV.nils,LV.nils,LV.bool false,
 LV.bool false,LV.bool false,LV.bool false]).flatten
 [(0,v107)]))
 fun v108 lE=>bd2 (ar lE 10 120 Md.rw v106 v108) fun v110 lT=>bd (ad 1 x5) fun v112=>bd2 (lmk (stV lT 1 v112 v110)) fun _v113 p7=>bd (ak BinOp.add x8 (i64 1)) fun v115=>ed x0 x2 x5 v6 v7 v115 v5 x10 x11 R p7))
 (bd (ad 1 x5) fun v116=>bd (ld1 eQ v116) fun v117=>bd (ldA eQ gE 10) fun v118=>bd2
 (aP eQ 1
 (ao (fun i=>some (i*10,10))
 (List.replicate 1
 [LV.str [],LV.str [],i64 0,LV.nils,LV.nils,LV.nils,LV.bool false,
 LV.bool false,LV.bool false,LV.bool false]).flatten
 [(0,v118)]))
 fun v119 p8=>bd2 (ar p8 10 120 Md.rw v117 v119) fun v121 p9=>bd (ad 1 x5) fun v123=>bd2 (lmk (stV p9 1 v123 v121)) fun _v124 tO=>bd (ak BinOp.add x8 (i64 1)) fun v126=>ed x0 x2 x5 v6 v7 v126 v5 x10 x11 R tO))))
 (bd (ak BinOp.gtr oR (i64 0)) fun v127=>al v127
 (bd (ad 0 gE) fun v128=>bd (ld1 eQ v128) fun v129=>bd (ad 1 x5) fun v130=>bd (ld1 eQ v130) fun v131=>bd (ak BinOp.sub oR (i64 1)) fun v132=>bd (aR 10 v131 v132) fun v133=>bd (ad 0 v133) fun v134=>bd (ld1 eQ v134) fun v135=>bd (bG BinOp.lss v129 v135) fun v136=>al v136
 (bd (aL (ao (ay [(0,1),(1,1)]) [i64 0,LV.nils] [])) fun v137=>bd2 (lmk (stV eQ 2 x2 v137)) fun _v138 iF=>bd (ldA iF x2 2) fun v140=>R (LV.tup [v140,v7,i64 4]) iF)
 (bd (ad 6 gE) fun v141=>bd (ld1 eQ v141) fun v142=>al v142
 (bd (ad 7 gE) fun v143=>bd (ld1 eQ v143) fun v144=>al v144
 (bd (aL (ao (ay [(0,1),(1,1)]) [i64 0,LV.nils] [])) fun v145=>bd2 (lmk (stV eQ 2 x2 v145)) fun _v146 iN=>bd (ldA iN x2 2) fun v148=>R (LV.tup [v148,v7,i64 1]) iN)
 (bd (ad 1 x5) fun v149=>bd (ld1 eQ v149) fun v150=>bd (ldA eQ gE 10) fun v151=>bd2
 (aP eQ 1
 (ao (fun i=>some (i*10,10))
 (List.replicate 1
 [LV.str [],LV.str [],i64 0,LV.nils,LV.nils,LV.nils,LV.bool false,
 LV.bool false,LV.bool false,LV.bool false]).flatten
 [(0,v151)]))
 fun v152 st153=>bd2 (ar st153 10 120 Md.rw v150 v152) fun v154 st155=>bd (ad 1 x5) fun v156=>bd2 (lmk (stV st155 1 v156 v154)) fun _v157 st158=>bd (ak BinOp.add x8 (i64 1)) fun v159=>ed x0 x2 x5 v6 v7 v159 v5 x10 x11 R st158))
 (bd (ad 1 x5) fun v160=>bd (ld1 eQ v160) fun v161=>bd (ldA eQ gE 10) fun v162=>bd2
 (aP eQ 1
 (ao (fun i=>some (i*10,10))
 (List.replicate 1
 [LV.str [],LV.str [],i64 0,LV.nils,LV.nils,LV.nils,LV.bool false,
 LV.bool false,LV.bool false,LV.bool false]).flatten
 [(0,v162)]))
 fun v163 st164=>bd2 (ar st164 10 120 Md.rw v161 v163) fun v165 st166=>bd (ad 1 x5) fun v167=>bd2 (lmk (stV st166 1 v167 v165)) fun _v168 st169=>bd (ak BinOp.add x8 (i64 1)) fun v170=>ed x0 x2 x5 v6 v7 v170 v5 x10 x11 R st169)))
 (bd (ad 6 gE) fun v171=>bd (ld1 eQ v171) fun v172=>al v172
 (bd (ad 7 gE) fun v173=>bd (ld1 eQ v173) fun v174=>al v174
 (bd (aL (ao (ay [(0,1),(1,1)]) [i64 0,LV.nils] [])) fun v175=>bd2 (lmk (stV eQ 2 x2 v175)) fun _v176 iS=>bd (ldA iS x2 2) fun v178=>R (LV.tup [v178,v7,i64 1]) iS)
 (bd (ad 1 x5) fun v179=>bd (ld1 eQ v179) fun v180=>bd (ldA eQ gE 10) fun v181=>bd2
 (aP eQ 1
 (ao (fun i=>some (i*10,10))
 (List.replicate 1
 [LV.str [],LV.str [],i64 0,LV.nils,LV.nils,LV.nils,LV.bool false,LV.bool false,
 LV.bool false,LV.bool false]).flatten
 [(0,v181)]))
 fun v182 st183=>bd2 (ar st183 10 120 Md.rw v180 v182) fun v184 st185=>bd (ad 1 x5) fun v186=>bd2 (lmk (stV st185 1 v186 v184)) fun _v187 st188=>bd (ak BinOp.add x8 (i64 1)) fun v189=>ed x0 x2 x5 v6 v7 v189 v5 x10 x11 R st188))
 (bd (ad 1 x5) fun v190=>bd (ld1 eQ v190) fun v191=>bd (ldA eQ gE 10) fun v192=>bd2
 (aP eQ 1
 (ao (fun i=>some (i*10,10))
 (List.replicate 1
 [LV.str [],LV.str [],i64 0,LV.nils,LV.nils,LV.nils,LV.bool false,LV.bool false,
 LV.bool false,LV.bool false]).flatten
 [(0,v192)]))
 fun v193 st194=>bd2 (ar st194 10 120 Md.rw v191 v193) fun v195 st196=>bd (ad 1 x5) fun v197=>bd2 (lmk (stV st196 1 v197 v195)) fun _v198 st199=>bd (ak BinOp.add x8 (i64 1)) fun v200=>ed x0 x2 x5 v6 v7 v200 v5 x10 x11 R st199)))))))))
 (bd (bJ x0) fun v201=>bd (ak BinOp.lss x6 v201) fun v202=>al v202
 (bd (aL (ao (ay [(0,1),(1,1)]) [i64 0,LV.nils] [])) fun v203=>bd (ak BinOp.add x7 (i64 1)) fun v204=>bd2 (lmk (stV st 2 x2 v203)) fun _v205 mK=>bd (ldA mK x2 2) fun v207=>R (LV.tup [v207,v204,i64 4]) mK)
 (bd (ak BinOp.eql x7 (i64 0)) fun v208=>al v208
 (bd (aL (ao (ay [(0,1),(1,1)]) [i64 0,LV.nils] [])) fun v209=>bd (ak BinOp.add x7 (i64 1)) fun v210=>bd2 (lmk (stV st 2 x2 v209)) fun _v211 nE=>bd (ldA nE x2 2) fun v213=>R (LV.tup [v213,v210,i64 4]) nE)
 (bd (ldA st x5 2) fun v214=>bd2 (lmk (stV st 2 x2 v214)) fun _v215 oF=>bd (ldA oF x2 2) fun v217=>R (LV.tup [v217,i64 0,i64 0]) oF)))
theorem CD (x0 x2 x5 x6 x7 x8 x9 x10 x11:LV) {R:LV.RT} {st:aa} (h:yk x0 x2 x5 x6 x7 x8 x9 x10 x11 R st):ed x0 x2 x5 x6 x7 x8 x9 x10 x11 R st:=
 pz L7 [] h
def vM (x0 x2 x5 x6 x7 x8 x9 x10 x11:LV) (R:LV.RT) (st:aa):Prop:=
 bd (ak BinOp.leq x11 (i64 1000)) fun v0=>al v0
 (bd (ak BinOp.lss x10 (i64 0)) fun v1=>al v1
 (bd (bJ x9) fun v2=>bd (ak BinOp.lss v2 (i64 14)) fun v3=>al v3
 (LZ 104 [x11] st fun v4 oF=>bd (bG BinOp.add (LV.str [118,101,114,115,105,111,110,32]) v4) fun v6=>bd (bG BinOp.eql x9 v6) fun v7=>al v7 (bd (ak BinOp.add x11 (i64 1)) fun v8=>pj x0 x2 x5 x6 x7 x8 x9 x11 v8 R oF)
 (bd (ak BinOp.add x11 (i64 1)) fun v9=>pj x0 x2 x5 x6 x7 x8 x9 x10 v9 R oF))
 (bd (ak BinOp.lss x10 (i64 0)) fun oR=>al oR
 (bd (aL (ao (ay [(0,1),(1,1)]) [i64 0,LV.nils] [])) fun rW=>LZ 105 [x9] st fun aS iD=>bd2 (lmk (stV iD 2 x2 rW)) fun _ eQ=>bd (ldA eQ x2 2) fun aT=>R (LV.tup [aT,i64 1,aS]) eQ)
 (bd (ad 0 x5) fun bY=>bd2 (lmk (stV st 1 bY x10)) fun _ iF=>bd (ak BinOp.add x8 (i64 1)) fun c7=>ed x0 x2 x5 x6 x7 c7 x9 x10 x11 R iF)))
 (bd (ak BinOp.lss x10 (i64 0)) fun dO=>al dO
 (bd (aL (ao (ay [(0,1),(1,1)]) [i64 0,LV.nils] [])) fun lE=>LZ 105 [x9] st fun lT iN=>bd2 (lmk (stV iN 2 x2 lE)) fun _ gE=>bd (ldA gE x2 2) fun p7=>R (LV.tup [p7,i64 1,lT]) gE)
 (bd (ad 0 x5) fun p8=>bd2 (lmk (stV st 1 p8 x10)) fun _ iS=>bd (ak BinOp.add x8 (i64 1)) fun p9=>ed x0 x2 x5 x6 x7 p9 x9 x10 x11 R iS)))
 (bd (ak BinOp.lss x10 (i64 0)) fun tO=>al tO
 (bd (aL (ao (ay [(0,1),(1,1)]) [i64 0,LV.nils] [])) fun v33=>LZ 105 [x9] st fun v34 mK=>bd2 (lmk (stV mK 2 x2 v33)) fun _v36 gT=>bd (ldA gT x2 2) fun v38=>R (LV.tup [v38,i64 1,v34]) gT)
 (bd (ad 0 x5) fun v39=>bd2 (lmk (stV st 1 v39 x10)) fun _v40 nE=>bd (ak BinOp.add x8 (i64 1)) fun v42=>ed x0 x2 x5 x6 x7 v42 x9 x10 x11 R nE))
theorem Az (x0 x2 x5 x6 x7 x8 x9 x10 x11:LV) {R:LV.RT} {st:aa} (h:vM x0 x2 x5 x6 x7 x8 x9 x10 x11 R st):pj x0 x2 x5 x6 x7 x8 x9 x10 x11 R st:=
 pz L7 [] h
def w19 (a0:LV) (R:LV.RT) (st:aa):Prop:=
 LZ 77 [a0,i64 0] st fun v0 gE=>nw gE [i64 0,i64 0] fun v2 gT=>bd2 (lmk (stV gT 2 v2 v0)) fun _ eQ=>bd (ad 1 v2) fun v6=>bd (ld1 eQ v6) fun v7=>bd (ak BinOp.eql v7 (i64 0)) fun v8=>al v8 (bd (ad 0 v2) fun v9=>bd (ld1 eQ v9) fun iD=>bd (bJ a0) fun iF=>bd (ak BinOp.eql iD iF) fun iN=>R iN eQ) (R (LV.bool false) eQ)
theorem c19 (a0:LV) {R:LV.RT} {st:aa} (h:w19 a0 R st):LZ 19 [a0] st R:=
 cz [] [] [.tmp 2] Tryz.func19 h
def gQ (x3 x5:LV) (R:LV.RT) (st:aa):Prop:=LTg Tryz.prog (kindOf false) [.tmp 2] (bg Tryz.f105 12) [] R (LV.jk 3 (x3::.aN::x5::(LV.jk 59 []))) st
def Ky:List Nat:=(LV.gx 0 65 [3,5])
def NQ (a0:LV) (R:LV.RT) (st:aa):Prop:=
 bd (bJ a0) fun v0=>bd (ak BinOp.leq v0 (i64 8)) fun v1=>al v1 (R (i64 4) st)
 (bd (ob3 none (some (i64 8)) none fun l h m=>cF a0 l h m) fun v2=>bd (bG BinOp.neq v2 (LV.str [118,101,114,115,105,111,110,32])) fun v3=>al v3 (R (i64 4) st)
 (bd (ob3 (some (i64 8)) none none fun l h m=>cF a0 l h m) fun v4=>bd (cv v4 (i64 0)) fun v5=>bd (ak BinOp.eql v5 (LV.int IntKind.u8 45)) fun v6=>al v6
 (bd (ob3 (some (i64 1)) none none fun l h m=>cF v4 l h m) fun v7=>bd (bJ v7) fun v8=>bd (ak BinOp.eql v8 (i64 0)) fun v9=>al v9 (R (i64 4) st)
 (bd (bJ v7) fun eQ=>bd (ak BinOp.gtr eQ (i64 19)) fun gE=>al gE (R (i64 4) st)
 (bd (bJ v7) fun gT=>bd (ak BinOp.eql gT (i64 19)) fun iD=>al iD
 (bd (bG BinOp.gtr v7 (LV.str [57,50,50,51,51,55,50,48,51,54,56,53,52,55,55,53,56,48,56])) fun iF=>al iF (R (i64 4) st)
 (bd (cv v7 (i64 0)) fun iN=>bd (ak BinOp.lss iN (LV.int IntKind.u8 49)) fun iS=>al iS (R (i64 4) st)
 (bd (cv v7 (i64 0)) fun mK=>bd (ak BinOp.gtr mK (LV.int IntKind.u8 57)) fun nE=>al nE (R (i64 4) st) (gQ v7 (i64 0) R st))))
 (bd (cv v7 (i64 0)) fun oF=>bd (ak BinOp.lss oF (LV.int IntKind.u8 49)) fun oR=>al oR (R (i64 4) st)
 (bd (cv v7 (i64 0)) fun rW=>bd (ak BinOp.gtr rW (LV.int IntKind.u8 57)) fun aS=>al aS (R (i64 4) st) (gQ v7 (i64 0) R st))))))
 (bd (bJ v4) fun aT=>bd (ak BinOp.eql aT (i64 0)) fun bY=>al bY (R (i64 4) st)
 (bd (bJ v4) fun c7=>bd (ak BinOp.gtr c7 (i64 19)) fun dO=>al dO (R (i64 4) st)
 (bd (bJ v4) fun lE=>bd (ak BinOp.eql lE (i64 19)) fun lT=>al lT
 (bd (bG BinOp.gtr v4 (LV.str [57,50,50,51,51,55,50,48,51,54,56,53,52,55,55,53,56,48,55])) fun p7=>al p7 (R (i64 4) st)
 (bd (cv v4 (i64 0)) fun p8=>bd (ak BinOp.lss p8 (LV.int IntKind.u8 49)) fun p9=>al p9 (R (i64 4) st)
 (bd (cv v4 (i64 0)) fun tO=>bd (ak BinOp.gtr tO (LV.int IntKind.u8 57)) fun v33=>al v33 (R (i64 4) st) (gQ v4 (i64 0) R st))))
 (bd (cv v4 (i64 0)) fun v34=>bd (ak BinOp.lss v34 (LV.int IntKind.u8 49)) fun v35=>al v35 (R (i64 4) st)
 (bd (cv v4 (i64 0)) fun v36=>bd (ak BinOp.gtr v36 (LV.int IntKind.u8 57)) fun v37=>al v37 (R (i64 4) st) (gQ v4 (i64 0) R st))))))))
theorem c105 (a0:LV) {R:LV.RT} {st:aa} (h:NQ a0 R st):LZ 105 [a0] st R:=
 cz Ky [] [.tmp 2] Tryz.func105 h
def vN (x3 x5:LV) (R:LV.RT) (st:aa):Prop:=
 bd (bJ x3) fun v0=>bd (ak BinOp.lss x5 v0) fun v1=>al v1
 (bd (cv x3 x5) fun v2=>bd (ak BinOp.lss v2 (LV.int IntKind.u8 48)) fun v3=>al v3 (R (i64 4) st)
 (bd (cv x3 x5) fun v4=>bd (ak BinOp.gtr v4 (LV.int IntKind.u8 57)) fun v5=>al v5 (R (i64 4) st) (bd (ak BinOp.add x5 (i64 1)) fun v6=>gQ x3 v6 R st)))
 (R (i64 2) st)
theorem CE (x3 x5:LV) {R:LV.RT} {st:aa} (h:vN x3 x5 R st):gQ x3 x5 R st:=
 pz Ky [] h
def Gg (x0 x2 x4 x5:LV) (R:LV.RT) (st:aa):Prop:=LTg Tryz.prog (kindOf false) [.cell 2 31,.tmp 3] (bg Tryz.f106 4) [] R (x0::.aN::x2::.aN::x4::x5::(LV.jk 81 [])) st
def dm (x0 x2 x4 x5 x6:LV) (R:LV.RT) (st:aa):Prop:=LTg Tryz.prog (kindOf false) [.cell 2 31,.tmp 3] (bg Tryz.f106 7) [] R (x0::.aN::x2::.aN::x4::x5::x6::(LV.jk 80 [])) st
def vO (x2 x3:LV) (R:LV.RT) (st:aa):Prop:=LTg Tryz.prog (kindOf false) [.cell 2 31,.tmp 3] (bg Tryz.f106 17) [] R (.aN::.aN::x2::x3::(LV.jk 83 [])) st
def CF:List Nat:=(LV.gx 1 86 [2,4,5,6])
def CG:List (Nat × List Nat):=[(4,(LV.gx 1 86 [2,4,5])),(14,(LV.gx 0 87 [2,3]))]
def NR (a0:LV) (R:LV.RT) (st:aa):Prop:=
 nw st [LV.str [],LV.str [],i64 0,LV.nils,LV.nils,LV.nils,LV.bool false,LV.bool false,LV.bool false,LV.bool false] fun v0 oF=>LZ 160 [a0] oF fun v2 gE=>bd (bo v2) fun v4=>bd (ak BinOp.lss v4 (i64 3)) fun v5=>al v5
 (bd
 (aL
 (ao (ay [(0,1),(1,1),(2,4),(6,1),(7,1),(8,1),(9,1)])
 [LV.str [],LV.str [],i64 0,LV.nils,LV.nils,LV.nils,LV.bool false,LV.bool false,LV.bool false,LV.bool false] []))
 fun v6=>bd2 (lmk (stV gE 10 v0 v6)) fun _ iD=>bd (ldA iD v0 10) fun v9=>R (LV.tup [v9,LV.bool false]) iD)
 (bd (aR 1 v2 (i64 1)) fun iF=>bd (ld1 gE iF) fun iN=>bd (aR 1 v2 (i64 2)) fun iS=>bd (ld1 gE iS) fun mK=>bd
 (aL
 (ao (ay [(0,1),(1,1),(2,4),(6,1),(7,1),(8,1),(9,1)])
 [LV.str [],LV.str [],i64 0,LV.nils,LV.nils,LV.nils,LV.bool false,LV.bool false,LV.bool false,LV.bool false] [(0,iN),(1,mK)]))
 fun oR=>nw gE [LV.str [],LV.str [],i64 0,LV.nils,LV.nils,LV.nils,LV.bool false,LV.bool false,LV.bool false,LV.bool false] fun nE eQ=>ld1 eQ iS=some mK∧ld1 eQ iF=some iN∧bd2 (lmk (stV eQ 10 nE oR)) fun _ gT=>Gg a0 v0 v2 nE R gT)
theorem OW (a0:LV) {R:LV.RT} {st:aa} (h:NR a0 R st):LZ 106 [a0] st R:=
 cz CF CG [.cell 2 31,.tmp 3] Tryz.func106 h
def Gh (x0 x2 x4 x5:LV) (R:LV.RT) (st:aa):Prop:=
 dm x0 x2 x4 x5 (i64 3) R st
theorem L8 (x0 x2 x4 x5:LV) {R:LV.RT} {st:aa} (h:Gh x0 x2 x4 x5 R st):Gg x0 x2 x4 x5 R st:=
 pz CF CG h
def AA (x0 x2 x4 x5 x6:LV) (R:LV.RT) (st:aa):Prop:=
 bd (bo x4) fun v0=>bd (ak BinOp.lss x6 v0) fun v1=>al v1
 (bd (ad 6 x5) fun v2=>bd (ld1 st v2) fun v3=>al v3
 (bd (ad 6 x5) fun v4=>bd2 (lmk (stV st 1 v4 (LV.bool true))) fun _v5 st6=>bd (ad 7 x5) fun v7=>bd (ld1 st6 v7) fun v8=>al v8
 (bd (ad 7 x5) fun v9=>bd2 (lmk (stV st6 1 v9 (LV.bool true))) fun _v10 mK=>bd (ad 8 x5) fun v12=>bd (ld1 mK v12) fun v13=>al v13
 (bd (ad 8 x5) fun v14=>bd2 (lmk (stV mK 1 v14 (LV.bool true))) fun _v15 nE=>bd (ad 9 x5) fun v17=>bd (ld1 nE v17) fun v18=>al v18
 (bd (ad 9 x5) fun v19=>bd2 (lmk (stV nE 1 v19 (LV.bool true))) fun _v20 st21=>bd (ak BinOp.add x6 (i64 1)) fun v22=>dm x0 x2 x4 x5 v22 R st21)
 (bd (aR 1 x4 x6) fun v23=>bd (ld1 nE v23) fun v24=>bd (bG BinOp.eql v24 (LV.str [110,101,119])) fun v25=>bd (ad 9 x5) fun v26=>bd2 (lmk (stV nE 1 v26 v25)) fun _v27 st28=>bd (ak BinOp.add x6 (i64 1)) fun v29=>dm x0 x2 x4 x5 v29 R st28))
 (bd (aR 1 x4 x6) fun v30=>bd (ld1 mK v30) fun v31=>bd (bG BinOp.eql v31 (LV.str [104,105,100,101])) fun v32=>bd (ad 8 x5) fun v33=>bd2 (lmk (stV mK 1 v33 v32)) fun _v34 oF=>bd (ad 9 x5) fun v36=>bd (ld1 oF v36) fun v37=>al v37
 (bd (ad 9 x5) fun v38=>bd2 (lmk (stV oF 1 v38 (LV.bool true))) fun _v39 st40=>bd (ak BinOp.add x6 (i64 1)) fun v41=>dm x0 x2 x4 x5 v41 R st40)
 (bd (aR 1 x4 x6) fun v42=>bd (ld1 oF v42) fun v43=>bd (bG BinOp.eql v43 (LV.str [110,101,119])) fun v44=>bd (ad 9 x5) fun v45=>bd2 (lmk (stV oF 1 v45 v44)) fun _v46 st47=>bd (ak BinOp.add x6 (i64 1)) fun v48=>dm x0 x2 x4 x5 v48 R st47)))
 (bd (aR 1 x4 x6) fun v49=>bd (ld1 st6 v49) fun v50=>bd (bG BinOp.eql v50 (LV.str [111,119,110])) fun v51=>bd (ad 7 x5) fun v52=>bd2 (lmk (stV st6 1 v52 v51)) fun _v53 oR=>bd (ad 8 x5) fun v55=>bd (ld1 oR v55) fun v56=>al v56
 (bd (ad 8 x5) fun v57=>bd2 (lmk (stV oR 1 v57 (LV.bool true))) fun _v58 rW=>bd (ad 9 x5) fun v60=>bd (ld1 rW v60) fun v61=>al v61
 (bd (ad 9 x5) fun v62=>bd2 (lmk (stV rW 1 v62 (LV.bool true))) fun _v63 st64=>bd (ak BinOp.add x6 (i64 1)) fun v65=>dm x0 x2 x4 x5 v65 R st64)
 (bd (aR 1 x4 x6) fun v66=>bd (ld1 rW v66) fun v67=>bd (bG BinOp.eql v67 (LV.str [110,101,119])) fun v68=>bd (ad 9 x5) fun v69=>bd2 (lmk (stV rW 1 v69 v68)) fun _v70 st71=>bd (ak BinOp.add x6 (i64 1)) fun v72=>dm x0 x2 x4 x5 v72 R st71))
 (bd (aR 1 x4 x6) fun v73=>bd (ld1 oR v73) fun v74=>bd (bG BinOp.eql v74 (LV.str [104,105,100,101])) fun v75=>bd (ad 8 x5) fun v76=>bd2 (lmk (stV oR 1 v76 v75)) fun _v77 aS=>bd (ad 9 x5) fun v79=>bd (ld1 aS v79) fun v80=>al v80
 (bd (ad 9 x5) fun v81=>bd2 (lmk (stV aS 1 v81 (LV.bool true))) fun _v82 st83=>bd (ak BinOp.add x6 (i64 1)) fun v84=>dm x0 x2 x4 x5 v84 R st83)
 (bd (aR 1 x4 x6) fun v85=>bd (ld1 aS v85) fun v86=>bd (bG BinOp.eql v86 (LV.str [110,101,119])) fun v87=>bd (ad 9 x5) fun v88=>bd2 (lmk (stV aS 1 v88 v87)) fun _v89 st90=>bd (ak BinOp.add x6 (i64 1)) fun v91=>dm x0 x2 x4 x5 v91 R st90))))
 (bd (aR 1 x4 x6) fun v92=>bd (ld1 st v92) fun v93=>bd (bG BinOp.eql v93 (LV.str [109,117,115,116])) fun v94=>bd (ad 6 x5) fun v95=>bd2 (lmk (stV st 1 v95 v94)) fun _v96 aT=>bd (ad 7 x5) fun v98=>bd (ld1 aT v98) fun v99=>al v99
 (bd (ad 7 x5) fun v100=>bd2 (lmk (stV aT 1 v100 (LV.bool true))) fun _v101 gE=>bd (ad 8 x5) fun v103=>bd (ld1 gE v103) fun v104=>al v104
 (bd (ad 8 x5) fun v105=>bd2 (lmk (stV gE 1 v105 (LV.bool true))) fun _v106 gT=>bd (ad 9 x5) fun v108=>bd (ld1 gT v108) fun v109=>al v109
 (bd (ad 9 x5) fun v110=>bd2 (lmk (stV gT 1 v110 (LV.bool true))) fun _v111 lE=>bd (ak BinOp.add x6 (i64 1)) fun v113=>dm x0 x2 x4 x5 v113 R lE)
 (bd (aR 1 x4 x6) fun v114=>bd (ld1 gT v114) fun v115=>bd (bG BinOp.eql v115 (LV.str [110,101,119])) fun v116=>bd (ad 9 x5) fun v117=>bd2 (lmk (stV gT 1 v117 v116)) fun _v118 lT=>bd (ak BinOp.add x6 (i64 1)) fun v120=>dm x0 x2 x4 x5 v120 R lT))
 (bd (aR 1 x4 x6) fun v121=>bd (ld1 gE v121) fun v122=>bd (bG BinOp.eql v122 (LV.str [104,105,100,101])) fun v123=>bd (ad 8 x5) fun v124=>bd2 (lmk (stV gE 1 v124 v123)) fun _v125 iD=>bd (ad 9 x5) fun v127=>bd (ld1 iD v127) fun v128=>al v128
 (bd (ad 9 x5) fun v129=>bd2 (lmk (stV iD 1 v129 (LV.bool true))) fun _v130 p7=>bd (ak BinOp.add x6 (i64 1)) fun v132=>dm x0 x2 x4 x5 v132 R p7)
 (bd (aR 1 x4 x6) fun v133=>bd (ld1 iD v133) fun v134=>bd (bG BinOp.eql v134 (LV.str [110,101,119])) fun v135=>bd (ad 9 x5) fun v136=>bd2 (lmk (stV iD 1 v136 v135)) fun _v137 p8=>bd (ak BinOp.add x6 (i64 1)) fun v139=>dm x0 x2 x4 x5 v139 R p8)))
 (bd (aR 1 x4 x6) fun v140=>bd (ld1 aT v140) fun v141=>bd (bG BinOp.eql v141 (LV.str [111,119,110])) fun v142=>bd (ad 7 x5) fun v143=>bd2 (lmk (stV aT 1 v143 v142)) fun _v144 iF=>bd (ad 8 x5) fun v146=>bd (ld1 iF v146) fun v147=>al v147
 (bd (ad 8 x5) fun v148=>bd2 (lmk (stV iF 1 v148 (LV.bool true))) fun _v149 iN=>bd (ad 9 x5) fun v151=>bd (ld1 iN v151) fun v152=>al v152
 (bd (ad 9 x5) fun v153=>bd2 (lmk (stV iN 1 v153 (LV.bool true))) fun _v154 p9=>bd (ak BinOp.add x6 (i64 1)) fun v156=>dm x0 x2 x4 x5 v156 R p9)
 (bd (aR 1 x4 x6) fun v157=>bd (ld1 iN v157) fun v158=>bd (bG BinOp.eql v158 (LV.str [110,101,119])) fun v159=>bd (ad 9 x5) fun v160=>bd2 (lmk (stV iN 1 v160 v159)) fun _v161 tO=>bd (ak BinOp.add x6 (i64 1)) fun v163=>dm x0 x2 x4 x5 v163 R tO))
 (bd (aR 1 x4 x6) fun v164=>bd (ld1 iF v164) fun v165=>bd (bG BinOp.eql v165 (LV.str [104,105,100,101])) fun v166=>bd (ad 8 x5) fun v167=>bd2 (lmk (stV iF 1 v167 v166)) fun _v168 iS=>bd (ad 9 x5) fun v170=>bd (ld1 iS v170) fun v171=>al v171
 (bd (ad 9 x5) fun v172=>bd2 (lmk (stV iS 1 v172 (LV.bool true))) fun _v173 st174=>bd (ak BinOp.add x6 (i64 1)) fun v175=>dm x0 x2 x4 x5 v175 R st174)
 (bd (aR 1 x4 x6) fun v176=>bd (ld1 iS v176) fun v177=>bd (bG BinOp.eql v177 (LV.str [110,101,119])) fun v178=>bd (ad 9 x5) fun v179=>bd2 (lmk (stV iS 1 v179 v178)) fun _v180 st181=>bd (ak BinOp.add x6 (i64 1)) fun v182=>dm x0 x2 x4 x5 v182 R st181)))))
 (bd (aR 1 x4 (i64 2)) fun v183=>bd (ld1 st v183) fun v184=>LZ 161 [v184] st fun v185 st186=>bd (ai v185 0) fun v187=>bd (ai v185 1) fun v188=>nw st186 [i64 0,LV.nils,LV.nils,LV.nils] fun v189 st190=>nw st190 [i64 0,i64 0] fun v191 st192=>bd2 (lmk (stV st192 4 v189 v187)) fun _v193 st194=>bd2 (lmk (stV st194 2 v191 v188)) fun _v195 bY=>bd (ldA bY v189 4) fun v197=>bd (ad 2 x5) fun v198=>bd2 (lmk (stV bY 4 v198 v197)) fun _v199 eQ=>bd (ldA eQ x5 10) fun dO=>bd (ad 1 v191) fun v202=>bd (ld1 eQ v202) fun v203=>bd (ak BinOp.eql v203 (i64 0)) fun v204=>al v204
 (bd (ldA eQ x5 10) fun v205=>LZ 162 [v205] eQ fun v206 c7=>ldA c7 x5 10=some dO∧bd (bG BinOp.eql v206 x0) fun v208=>bd2 (lmk (stV c7 10 x2 dO)) fun _v209 st210=>vO x2 v208 R st210)
 (bd2 (lmk (stV eQ 10 x2 dO)) fun _v211 st212=>vO x2 (LV.bool false) R st212))
theorem Gi (x0 x2 x4 x5 x6:LV) {R:LV.RT} {st:aa} (h:AA x0 x2 x4 x5 x6 R st):dm x0 x2 x4 x5 x6 R st:=
 pz CF CG h
def vP (x2 x3:LV) (R:LV.RT) (st:aa):Prop:=
 bd (ldA st x2 10) fun v0=>R (LV.tup [v0,x3]) st
theorem CH (x2 x3:LV) {R:LV.RT} {st:aa} (h:vP x2 x3 R st):vO x2 x3 R st:=
 pz CF CG h
def mU (x0 x3 x4 x5:LV) (R:LV.RT) (st:aa):Prop:=LTg Tryz.prog (kindOf false) [.tmp 2] (bg Tryz.f160 5) [] R (x0::.aN::.aN::x3::x4::x5::(LV.jk 26 [])) st
def Kz:List Nat:=(LV.gx 1 31 [3,4,5])
def OX (a0:LV) (R:LV.RT) (st:aa):Prop:=
 mU a0 LV.nils (i64 0) (i64 0) R st
theorem c160 (a0:LV) {R:LV.RT} {st:aa} (h:OX a0 R st):LZ 160 [a0] st R:=
 cz Kz [] [.tmp 2] Tryz.func160 h
def vQ (x0 x3 x4 x5:LV) (R:LV.RT) (st:aa):Prop:=
 bd (bJ x0) fun v0=>bd (ak BinOp.leq x5 v0) fun v1=>al v1
 (bd (bJ x0) fun v2=>bd (ak BinOp.eql x5 v2) fun v3=>al v3
 (bd (ob3 (some x4) (some x5) none fun l h m=>cF x0 l h m) fun v4=>bd2 (aP st 1 (ao (fun i=>some (i*1,1)) (List.replicate 1 [LV.str []]).flatten [(0,v4)])) fun v5 gT=>bd2 (ar gT 1 16 Md.rw x3 v5) fun v7 iD=>bd (ak BinOp.add x5 (i64 1)) fun v9=>bd (ak BinOp.add x5 (i64 1)) fun iF=>mU x0 v7 v9 iF R iD)
 (bd (cv x0 x5) fun iN=>bd (ak BinOp.eql iN (LV.int IntKind.u8 32)) fun iS=>al iS
 (bd (ob3 (some x4) (some x5) none fun l h m=>cF x0 l h m) fun mK=>bd2 (aP st 1 (ao (fun i=>some (i*1,1)) (List.replicate 1 [LV.str []]).flatten [(0,mK)])) fun nE eQ=>bd2 (ar eQ 1 16 Md.rw x3 nE) fun oF gE=>bd (ak BinOp.add x5 (i64 1)) fun oR=>bd (ak BinOp.add x5 (i64 1)) fun rW=>mU x0 oF oR rW R gE)
 (bd (ak BinOp.add x5 (i64 1)) fun aS=>mU x0 x3 x4 aS R st)))
 (R x3 st)
theorem AB (x0 x3 x4 x5:LV) {R:LV.RT} {st:aa} (h:vQ x0 x3 x4 x5 R st):mU x0 x3 x4 x5 R st:=
 pz Kz [] h
def NS (a0:LV) (R:LV.RT) (st:aa):Prop:=
 bd2 (b8 st a0) fun v0 eQ=>bd (ad 0 v0) fun v2=>bd (ld1 eQ v2) fun v3=>bd (bG BinOp.add (LV.str [97,116,116,114,32]) v3) fun v4=>bd (bG BinOp.add v4 (LV.str [32])) fun v5=>bd (ad 1 v0) fun v6=>bd (ld1 eQ v6) fun v7=>bd (bG BinOp.add v5 v7) fun v8=>bd (ad 6 v0) fun v9=>bd (ld1 eQ v9) fun nE=>al nE
 (bd (bG BinOp.add v8 (LV.str [32,109,117,115,116])) fun gE=>bd (ad 7 v0) fun oF=>bd (ld1 eQ oF) fun oR=>al oR
 (bd (bG BinOp.add gE (LV.str [32,111,119,110])) fun gT=>bd (ad 8 v0) fun rW=>bd (ld1 eQ rW) fun aS=>al aS
 (bd (bG BinOp.add gT (LV.str [32,104,105,100,101])) fun iF=>bd (ad 9 v0) fun aT=>bd (ld1 eQ aT) fun bY=>al bY (bd (bG BinOp.add iF (LV.str [32,110,101,119])) fun c7=>R c7 eQ) (R iF eQ))
 (bd (ad 9 v0) fun dO=>bd (ld1 eQ dO) fun lE=>al lE (bd (bG BinOp.add gT (LV.str [32,110,101,119])) fun lT=>R lT eQ) (R gT eQ)))
 (bd (ad 8 v0) fun p7=>bd (ld1 eQ p7) fun p8=>al p8
 (bd (bG BinOp.add gE (LV.str [32,104,105,100,101])) fun iN=>bd (ad 9 v0) fun p9=>bd (ld1 eQ p9) fun tO=>al tO (bd (bG BinOp.add iN (LV.str [32,110,101,119])) fun v29=>R v29 eQ) (R iN eQ))
 (bd (ad 9 v0) fun v30=>bd (ld1 eQ v30) fun v31=>al v31 (bd (bG BinOp.add gE (LV.str [32,110,101,119])) fun v32=>R v32 eQ) (R gE eQ))))
 (bd (ad 7 v0) fun v33=>bd (ld1 eQ v33) fun v34=>al v34
 (bd (bG BinOp.add v8 (LV.str [32,111,119,110])) fun iD=>bd (ad 8 v0) fun v36=>bd (ld1 eQ v36) fun v37=>al v37
 (bd (bG BinOp.add iD (LV.str [32,104,105,100,101])) fun iS=>bd (ad 9 v0) fun v39=>bd (ld1 eQ v39) fun v40=>al v40 (bd (bG BinOp.add iS (LV.str [32,110,101,119])) fun v41=>R v41 eQ) (R iS eQ))
 (bd (ad 9 v0) fun v42=>bd (ld1 eQ v42) fun v43=>al v43 (bd (bG BinOp.add iD (LV.str [32,110,101,119])) fun v44=>R v44 eQ) (R iD eQ)))
 (bd (ad 8 v0) fun v45=>bd (ld1 eQ v45) fun v46=>al v46
 (bd (bG BinOp.add v8 (LV.str [32,104,105,100,101])) fun mK=>bd (ad 9 v0) fun v48=>bd (ld1 eQ v48) fun v49=>al v49 (bd (bG BinOp.add mK (LV.str [32,110,101,119])) fun v50=>R v50 eQ) (R mK eQ))
 (bd (ad 9 v0) fun v51=>bd (ld1 eQ v51) fun v52=>al v52 (bd (bG BinOp.add v8 (LV.str [32,110,101,119])) fun v53=>R v53 eQ) (R v8 eQ))))
theorem c162 (a0:LV) {R:LV.RT} {st:aa} (h:NS a0 R st):LZ 162 [a0] st R:=
 cz [] [] [.tmp 2] Tryz.func162 h
def kZ (x0 x3:LV) (R:LV.RT) (st:aa):Prop:=LTg Tryz.prog (kindOf false) [.tmp 2] (bg Tryz.f104 7) [] R (x0::.aN::.aN::x3::(LV.jk 25 [])) st
def KA:List Nat:=(LV.gx 1 28 [3])
def NT (a0:LV) (R:LV.RT) (st:aa):Prop:=
 bd (ak BinOp.lss a0 (i64 0)) fun v0=>al v0
 (bd (ak BinOp.eql a0 (i64 (-9223372036854775808))) fun v1=>al v1 (R (LV.str [45,57,50,50,51,51,55,50,48,51,54,56,53,52,55,55,53,56,48,56]) st)
 (bd (lun UnOp.neg a0) fun v2=>LZ 104 [v2] st fun v3 eQ=>bd (bG BinOp.add (LV.str [45]) v3) fun v5=>R v5 eQ))
 (kZ a0 (LV.str []) R st)
theorem OY (a0:LV) {R:LV.RT} {st:aa} (h:NT a0 R st):LZ 104 [a0] st R:=
 cz KA [] [.tmp 2] Tryz.func104 h
def AD (x0 x3:LV) (R:LV.RT) (st:aa):Prop:=
 bd (bG BinOp.eql x3 (LV.str [])) fun v0=>al v0
 (bd (ak BinOp.rem x0 (i64 10)) fun v1=>bd (ak BinOp.add (i64 48) v1) fun v2=>bd (gg IntKind.u8 v2) fun v3=>bd2 (aP st 1 (ao (fun i=>some (i*1,1)) (List.replicate 1 [LV.int IntKind.u8 0]).flatten [(0,v3)])) fun v4 gE=>bd (eT gE v4) fun v6=>bd (bG BinOp.add v6 x3) fun v7=>bd (ak BinOp.quo x0 (i64 10)) fun v8=>kZ v8 v7 R gE)
 (bd (ak BinOp.gtr x0 (i64 0)) fun v9=>al v9
 (bd (ak BinOp.rem x0 (i64 10)) fun gT=>bd (ak BinOp.add (i64 48) gT) fun iD=>bd (gg IntKind.u8 iD) fun iF=>bd2 (aP st 1 (ao (fun i=>some (i*1,1)) (List.replicate 1 [LV.int IntKind.u8 0]).flatten [(0,iF)])) fun iN eQ=>bd (eT eQ iN) fun iS=>bd (bG BinOp.add iS x3) fun mK=>bd (ak BinOp.quo x0 (i64 10)) fun nE=>kZ nE mK R eQ)
 (R x3 st))
theorem Gj (x0 x3:LV) {R:LV.RT} {st:aa} (h:AD x0 x3 R st):kZ x0 x3 R st:=
 pz KA [] h
def w26 (a0:LV) (R:LV.RT) (st:aa):Prop:=
 nw st [i64 0,LV.nils] fun v0 nE=>bd (bJ a0) fun v2=>bd (ak BinOp.gtr v2 (i64 600)) fun v3=>al v3
 (bd (aL (ao (ay [(0,1),(1,1)]) [i64 0,LV.nils] [])) fun v4=>bd2 (lmk (stV nE 2 v0 v4)) fun _ oF=>bd (ldA oF v0 2) fun v7=>R (LV.tup [LV.nilp,v7,i64 1]) oF)
 (LZ 35 [a0] nE fun v8 oR=>bd (ai v8 0) fun rW=>bd (ai v8 1) fun _=>bd (ai v8 2) fun aS=>nw oR [i64 0,LV.nils] fun iF iN=>bd2 (lmk (stV iN 2 iF rW)) fun _ iS=>LZ 21 [a0] iS fun mK eQ=>bd (ai mK 0) fun aT=>bd (ai mK 1) fun _=>bd (ai mK 2) fun bY=>bd (ak BinOp.neq aS (i64 0)) fun c7=>al c7 (bd (ldA eQ iF 2) fun dO=>bd2 (lmk (stV eQ 2 v0 dO)) fun _ gE=>bd (ldA gE v0 2) fun lE=>R (LV.tup [LV.nilp,lE,i64 1]) gE)
 (bd (ak BinOp.neq bY (i64 0)) fun lT=>al lT
 (bd (ldA eQ iF 2) fun p7=>bd2 (lmk (stV eQ 2 v0 p7)) fun _ gT=>bd (ldA gT v0 2) fun p8=>R (LV.tup [LV.nilp,p8,i64 1]) gT)
 (bd (ldA eQ iF 2) fun p9=>bd2 (lmk (stV eQ 2 v0 p9)) fun _ iD=>bd (ldA iD v0 2) fun tO=>R (LV.tup [aT,tO,i64 0]) iD)))
theorem c26 (a0:LV) {R:LV.RT} {st:aa} (h:w26 a0 R st):LZ 26 [a0] st R:=
 cz [] [] [.tmp 2,.cell 3 52,.tmp 4] Tryz.func26 h
end Go.Proofs.YtknegckgmklnhaaGreatDoor
