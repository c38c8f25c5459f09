/- Parts of the proof. -/
import Derived.Test.YtknegckgmklnhaaGreatDoorVbW
namespace Go.Proofs.YtknegckgmklnhaaGreatDoor
open Go Go.CP
set_option maxRecDepth 100000
def xg (x6 x7 x28 x29 x30:LV) (R:LV.RT) (st:aa):Prop:=LTg Tryz.prog (kindOf false) [.tmp 4,.tmp 5] (br Tryz.f20 10) [] R (LV.jk 6 (x6::x7::(LV.jk 20 (x28::x29::x30::(LV.jk 23 []))))) st
def PD:List Nat:=(LV.gx 0 54 [6,7,28,29,30])
def w20 (a0 a1:LV) (R:LV.RT) (st:aa):Prop:=
 bd (al BinOp.lss a0 (i64 0)) fun v0=>aq v0 (R (LV.tup [LV.nilp,i64 2]) st)
 (bd (al BinOp.gtr a0 (i64 1000)) fun v1=>aq v1 (R (LV.tup [LV.nilp,i64 2]) st)
 (bd (bB a1) fun v2=>bd (al BinOp.gtr v2 (i64 16)) fun v3=>aq v3 (R (LV.tup [LV.nilp,i64 3]) st)
 (LZ 78 [a1] st fun v4 gE=>GB gE fun v6 gT=>bd (bh (aB (aF [(0,1),(1,1),(2,1)]) [i64 0,LV.nils,LV.nilm] [(0,a0),(1,v4),(2,v6)])) fun v8=>bd2 (cu gT v8) fun v9 eQ=>bd (bB a1) fun iD=>xg v9 (LV.str []) a1 iD (i64 0) R eQ)))
theorem c20 (a0 a1:LV) {R:LV.RT} {st:aa} (h:w20 a0 a1 R st):LZ 20 [a0,a1] st R:=
 cz PD [] [.tmp 4,.tmp 5] Tryz.func20 h
def BR (x6 x7 x28 x29 x30:LV) (R:LV.RT) (st:aa):Prop:=
 bd (al BinOp.lss x30 x29) fun v0=>aq v0
 (bd (bn 6 x28 x30) fun v1=>bd (ldA st v1 6) fun v2=>nw st [LV.str [],LV.nilp,LV.bool false,LV.bool false,LV.bool false,LV.bool false] fun v3 mK=>bd2 (lmk (stV mK 6 v3 v2)) fun _ iN=>bd (ldA iN v3 6) fun v7=>LZ 79 [v7,x7] iN fun v8 eQ=>bd (al BinOp.neq v8 (i64 0)) fun nE=>aq nE (R (LV.tup [LV.nilp,v8]) eQ)
 (bd (ak x6) fun oF=>bd (ag 2 oF) fun oR=>bd (ld1 eQ oR) fun iS=>bd (ag 0 v3) fun rW=>bd (ld1 eQ rW) fun aS=>bd (ag 0 v3) fun iD=>bd (ld1 eQ iD) fun iF=>bd2 (sq eQ true (some (i64 0)) iS aS) fun aT gE=>ld1 gE iD=some iF∧
 bd (ai aT 1) fun bY=>bd2 (lmk (iI gE iS bY x30)) fun _ gT=>ld1 gT iD=some iF∧bd (al BinOp.add x30 (i64 1)) fun dO=>xg x6 iF x28 x29 dO R gT))
 (R (LV.tup [x6,i64 0]) st)
theorem Hz (x6 x7 x28 x29 x30:LV) {R:LV.RT} {st:aa} (h:BR x6 x7 x28 x29 x30 R st):xg x6 x7 x28 x29 x30 R st:=
 pz PD [] h
def w36 (a0:LV) (R:LV.RT) (st:aa):Prop:=
 bd (eqB BinOp.eql (eI true a0 LV.nilp)) fun v0=>aq v0 (R LV.nils st) (bd (ak a0) fun v1=>bd (ag 1 v1) fun v2=>bd (ld1 st v2) fun v3=>LZ 78 [v3] st fun v4 eQ=>R v4 eQ)
theorem c36 (a0:LV) {R:LV.RT} {st:aa} (h:w36 a0 R st):LZ 36 [a0] st R:=
 cz [] [] [.tmp 2] Tryz.func36 h
def w37 (a0:LV) (R:LV.RT) (st:aa):Prop:=
 bd (eqB BinOp.eql (eI true a0 LV.nilp)) fun v0=>aq v0 (R (i64 0) st) (bd (ak a0) fun v1=>bd (ag 0 v1) fun v2=>bd (ld1 st v2) fun v3=>R v3 st)
theorem c37 (a0:LV) {R:LV.RT} {st:aa} (h:w37 a0 R st):LZ 37 [a0] st R:=
 cz [] [] [.tmp 2] Tryz.func37 h
def xh (x6 x8 x10 x11 x12:LV) (R:LV.RT) (st:aa):Prop:=LTg Tryz.prog (kindOf false) [.tmp 2,.tmp 3,.tmp 4] (br Tryz.f21 10) [] R (LV.jk 6 (x6::.aY::x8::.aY::x10::x11::x12::(LV.jk 74 []))) st
def HA (x6 x8 x10 x11 x12:LV) (R:LV.RT) (st:aa):Prop:=LTg Tryz.prog (kindOf false) [.tmp 2,.tmp 3,.tmp 4] (br Tryz.f21 18) [] R (LV.jk 6 (x6::.aY::x8::.aY::x10::x11::x12::(LV.jk 74 []))) st
def NQ:List Nat:=(LV.gx 0 87 [6,8,10,11,12])
def NR:List (Nat × List Nat):=[(16,(LV.gx 0 87 [6,8,10,11,12]))]
def w21 (a0:LV) (R:LV.RT) (st:aa):Prop:=
 bd (cm a0) fun v0=>bd (al BinOp.gtr v0 (i64 1048576)) fun v1=>aq v1 (R (LV.tup [LV.nilp,i64 0,i64 3]) st)
 (LZ 80 [a0,LV.str [10]] st fun v2 iD=>bd (ai v2 0) fun v4=>bd (ai v2 1) fun v5=>bd (ai v2 2) fun v6=>LZ 81 [v4] iD fun v7 eQ=>bd (ai v7 0) fun v9=>bd (ai v7 1) fun iF=>bd (lun UnOp.not v6) fun iN=>aq iN (R (LV.tup [LV.nilp,i64 1,i64 4]) eQ)
 (bd (lun UnOp.not iF) fun iS=>aq iS (R (LV.tup [LV.nilp,i64 1,i64 4]) eQ)
 (LZ 20 [v9,LV.nils] eQ fun gT gE=>bd (ai gT 0) fun mK=>bd (ai gT 1) fun nE=>xh v5 v9 mK nE (i64 2) R gE)))
theorem c21 (a0:LV) {R:LV.RT} {st:aa} (h:w21 a0 R st):LZ 21 [a0] st R:=
 cz NQ NR [.tmp 2,.tmp 3,.tmp 4] Tryz.func21 h
def BS (x6 x8 x10 x11 x12:LV) (R:LV.RT) (st:aa):Prop:=
 bd (al BinOp.eql x11 (i64 0)) fun v0=>aq v0
 (bd (ck BinOp.neq x6 (LV.str [])) fun v1=>aq v1
 (LZ 80 [x6,LV.str [10]] st fun v2 oF=>bd (ai v2 0) fun v4=>bd (ai v2 1) fun v5=>bd (ai v2 2) fun v6=>LZ 82 [v4] oF fun v7 oR=>bd (ai v7 0) fun v9=>bd (ai v7 1) fun rW=>nw oR [LV.str [],LV.nilp,LV.bool false,LV.bool false,LV.bool false,LV.bool false] fun iN gT=>bd2 (lmk (stV gT 6 iN v9)) fun _ eQ=>bd (lun UnOp.not v6) fun aS=>aq aS (R (LV.tup [LV.nilp,x12,i64 4]) eQ)
 (bd (lun UnOp.not rW) fun aT=>aq aT (R (LV.tup [LV.nilp,x12,i64 4]) eQ)
 (bd (ak x10) fun bY=>bd (ag 1 bY) fun iS=>bd (ld1 eQ iS) fun mK=>bd (ldA eQ iN 6) fun dO=>bd2
 (cq eQ 1
 (aB (fun i=>some (i*6,6)) (List.replicate 1 [LV.str [],LV.nilp,LV.bool false,LV.bool false,LV.bool false,LV.bool false]).flatten [(0,dO)]))
 fun lE gE=>ld1 gE iS=some mK∧
 bd2 (bo gE 6 32 Md.rw mK lE) fun lT iD=>LZ 20 [x8,lT] iD fun nE iF=>bd (ai nE 0) fun p7=>bd (ai nE 1) fun p8=>HA v5 x8 p7 p8 x12 R iF)))
 (bd (al BinOp.neq x11 (i64 0)) fun p9=>aq p9 (R (LV.tup [LV.nilp,i64 1,x11]) st) (R (LV.tup [x10,i64 0,i64 0]) st)))
 (bd (al BinOp.neq x11 (i64 0)) fun tO=>aq tO (R (LV.tup [LV.nilp,i64 1,x11]) st) (R (LV.tup [x10,i64 0,i64 0]) st))
theorem HB (x6 x8 x10 x11 x12:LV) {R:LV.RT} {st:aa} (h:BS x6 x8 x10 x11 x12 R st):xh x6 x8 x10 x11 x12 R st:=
 pz NQ NR h
def BT (x6 x8 x10 x11 x12:LV) (R:LV.RT) (st:aa):Prop:=
 bd (al BinOp.neq x11 (i64 0)) fun v0=>aq v0 (R (LV.tup [LV.nilp,x12,x11]) st) (bd (al BinOp.add x12 (i64 1)) fun v1=>xh x6 x8 x10 x11 v1 R st)
theorem HC (x6 x8 x10 x11 x12:LV) {R:LV.RT} {st:aa} (h:BT x6 x8 x10 x11 x12 R st):HA x6 x8 x10 x11 x12 R st:=
 pz NQ NR h
def w39 (a0 a1:LV) (R:LV.RT) (st:aa):Prop:=
 nw st [LV.str [],LV.nilp,LV.bool false,LV.bool false,LV.bool false,LV.bool false] fun v0 eQ=>bd (eqB BinOp.eql (eI true a0 LV.nilp)) fun v2=>aq v2
 (bd (bh (aB (aF [(0,1),(1,1),(2,1),(3,1),(4,1),(5,1)]) [LV.str [],LV.nilp,LV.bool false,LV.bool false,LV.bool false,LV.bool false] [])) fun v3=>bd2 (lmk (stV eQ 6 v0 v3)) fun _ iD=>bd (ldA iD v0 6) fun v6=>R (LV.tup [v6,LV.bool false]) iD)
 (bd (ak a0) fun v7=>bd (ag 2 v7) fun v8=>bd (ld1 eQ v8) fun v9=>bd (so eQ true (some (i64 0)) v9 a1 true) fun iF=>bd (ai iF 0) fun iN=>bd (ai iF 1) fun iS=>bd (lun UnOp.not iS) fun mK=>aq mK
 (bd (bh (aB (aF [(0,1),(1,1),(2,1),(3,1),(4,1),(5,1)]) [LV.str [],LV.nilp,LV.bool false,LV.bool false,LV.bool false,LV.bool false] [])) fun nE=>bd2 (lmk (stV eQ 6 v0 nE)) fun _ gE=>bd (ldA gE v0 6) fun oF=>R (LV.tup [oF,LV.bool false]) gE)
 (bd (ak a0) fun oR=>bd (ag 1 oR) fun rW=>bd (ld1 eQ rW) fun aS=>bd (bn 6 aS iN) fun aT=>bd (ldA eQ aT 6) fun bY=>bd2 (lmk (stV eQ 6 v0 bY)) fun _ gT=>bd (ldA gT v0 6) fun dO=>R (LV.tup [dO,LV.bool true]) gT))
theorem c39 (a0 a1:LV) {R:LV.RT} {st:aa} (h:w39 a0 a1 R st):LZ 39 [a0,a1] st R:=
 cz [] [] [.cell 4 37,.tmp 5] Tryz.func39 h
def w79 (a0 a1:LV) (R:LV.RT) (st:aa):Prop:=
 bd2 (cu st a0) fun v0 gE=>bd (ag 0 v0) fun v2=>bd (ld1 gE v2) fun v3=>LZ 142 [v3] gE fun v4 eQ=>bd (lun UnOp.not v4) fun v6=>aq v6 (R (i64 7) eQ)
 (bd (ag 0 v0) fun v7=>bd (ld1 eQ v7) fun v8=>bd (ck BinOp.eql v8 a1) fun v9=>aq v9 (R (i64 9) eQ)
 (bd (ag 0 v0) fun gT=>bd (ld1 eQ gT) fun iD=>bd (ck BinOp.lss iD a1) fun iF=>aq iF (R (i64 4) eQ)
 (bd (ag 1 v0) fun iN=>bd (ld1 eQ iN) fun iS=>bd (eqB BinOp.eql (eI true iS LV.nilp)) fun mK=>aq mK (R (i64 6) eQ)
 (bd (ag 2 v0) fun nE=>bd (ld1 eQ nE) fun oF=>aq oF (bd (ag 3 v0) fun oR=>bd (ld1 eQ oR) fun rW=>aq rW (R (i64 1) eQ) (R (i64 0) eQ))
 (R (i64 0) eQ)))))
theorem c79 (a0 a1:LV) {R:LV.RT} {st:aa} (h:w79 a0 a1 R st):LZ 79 [a0,a1] st R:=
 cz [] [] [.tmp 4] Tryz.func79 h
def w81 (a0:LV) (R:LV.RT) (st:aa):Prop:=
 LZ 144 [a0,LV.str [118,101,114,115,105,111,110,32]] st fun v0 gT=>bd (ai v0 0) fun v2=>bd (ai v0 1) fun v3=>LZ 145 [v2] gT fun v4 eQ=>bd (ai v4 0) fun v6=>bd (ai v4 1) fun v7=>aq v3
 (bd (eqB BinOp.eql (sk true (iP Tryz.prog) v7 LV.nili)) fun v8=>aq v8 (LZ 83 [v6] eQ fun v9 gE=>bd (ck BinOp.eql v9 v2) fun iD=>R (LV.tup [v6,iD]) gE) (R (LV.tup [v6,LV.bool false]) eQ))
 (R (LV.tup [v6,LV.bool false]) eQ)
theorem c81 (a0:LV) {R:LV.RT} {st:aa} (h:w81 a0 R st):LZ 81 [a0] st R:=
 cz [] [] [.tmp 2,.tmp 3] Tryz.func81 h
def lg (x0 x2 x7 x8 x37 x38 x39:LV) (R:LV.RT) (st:aa):Prop:=LTg Tryz.prog (kindOf false) [.cell 2 37,.tmp 3] (br Tryz.f82 8) [] R (x0::.aY::x2::(LV.jk 4 (x7::x8::(LV.jk 28 (x37::x38::x39::(LV.jk 27 [])))))) st
def BU (x2 x3:LV) (R:LV.RT) (st:aa):Prop:=LTg Tryz.prog (kindOf false) [.cell 2 37,.tmp 3] (br Tryz.f82 23) [] R (.aY::.aY::x2::x3::(LV.jk 63 [])) st
def NS:List Nat:=(LV.gx 1 66 [2,7,8,37,38,39])
def NT:List (Nat × List Nat):=[(19,(LV.gx 0 67 [2,3]))]
def w82 (a0:LV) (R:LV.RT) (st:aa):Prop:=
 nw st [LV.str [],LV.nilp,LV.bool false,LV.bool false,LV.bool false,LV.bool false] fun v0 oF=>LZ 146 [a0,LV.str [32]] oF fun v2 eQ=>bd (bB v2) fun v4=>bd (al BinOp.lss v4 (i64 3)) fun v5=>aq v5
 (bd (bh (aB (aF [(0,1),(1,1),(2,1),(3,1),(4,1),(5,1)]) [LV.str [],LV.nilp,LV.bool false,LV.bool false,LV.bool false,LV.bool false] [])) fun v6=>bd2 (lmk (stV eQ 6 v0 v6)) fun _v7 iS=>bd (ldA iS v0 6) fun v9=>R (LV.tup [v9,LV.bool false]) iS)
 (bd (bn 1 v2 (i64 0)) fun oR=>bd (ld1 eQ oR) fun rW=>bd (ck BinOp.neq rW (LV.str [97,116,116,114])) fun aS=>aq aS
 (bd (bh (aB (aF [(0,1),(1,1),(2,1),(3,1),(4,1),(5,1)]) [LV.str [],LV.nilp,LV.bool false,LV.bool false,LV.bool false,LV.bool false] [])) fun aT=>bd2 (lmk (stV eQ 6 v0 aT)) fun _ gE=>bd (ldA gE v0 6) fun bY=>R (LV.tup [bY,LV.bool false]) gE)
 (bd (bn 1 v2 (i64 2)) fun dO=>bd (ld1 eQ dO) fun lE=>LZ 18 [lE] eQ fun iF gT=>bd (ai iF 0) fun lT=>bd (ai iF 1) fun _=>bd (ai iF 2) fun p7=>bd (bn 1 v2 (i64 1)) fun p8=>bd (ld1 gT p8) fun p9=>bd
 (bh
 (aB (aF [(0,1),(1,1),(2,1),(3,1),(4,1),(5,1)]) [LV.str [],LV.nilp,LV.bool false,LV.bool false,LV.bool false,LV.bool false]
 [(0,p9),(1,lT)]))
 fun tO=>nw gT [LV.str [],LV.nilp,LV.bool false,LV.bool false,LV.bool false,LV.bool false] fun mK iN=>bd2 (lmk (stV iN 6 mK tO)) fun _ iD=>bd (ob3 (some (i64 3)) none none fun l h m=>dn iD 1 v2 l h m) fun nE=>bd (bB nE) fun v32=>lg a0 v0 p7 mK nE v32 (i64 0) R iD))
theorem c82 (a0:LV) {R:LV.RT} {st:aa} (h:w82 a0 R st):LZ 82 [a0] st R:=
 cz NS NT [.cell 2 37,.tmp 3] Tryz.func82 h
def DR (x0 x2 x7 x8 x37 x38 x39:LV) (R:LV.RT) (st:aa):Prop:=
 bd (al BinOp.lss x39 x38) fun v0=>aq v0
 (bd (bn 1 x37 x39) fun v1=>bd (ld1 st v1) fun v2=>bd (ck BinOp.eql v2 (LV.str [109,117,115,116])) fun v3=>aq v3 (bd (ag 2 x8) fun v4=>bd2 (lmk (stV st 1 v4 (LV.bool true))) fun _ mK=>bd (al BinOp.add x39 (i64 1)) fun v7=>lg x0 x2 x7 x8 x37 x38 v7 R mK)
 (bd (ck BinOp.eql v2 (LV.str [111,119,110])) fun v8=>aq v8 (bd (ag 3 x8) fun v9=>bd2 (lmk (stV st 1 v9 (LV.bool true))) fun _ gE=>bd (al BinOp.add x39 (i64 1)) fun nE=>lg x0 x2 x7 x8 x37 x38 nE R gE)
 (bd (ck BinOp.eql v2 (LV.str [104,105,100,101])) fun oF=>aq oF
 (bd (ag 4 x8) fun oR=>bd2 (lmk (stV st 1 oR (LV.bool true))) fun _ gT=>bd (al BinOp.add x39 (i64 1)) fun rW=>lg x0 x2 x7 x8 x37 x38 rW R gT)
 (bd (ck BinOp.eql v2 (LV.str [110,101,119])) fun aS=>aq aS
 (bd (ag 5 x8) fun aT=>bd2 (lmk (stV st 1 aT (LV.bool true))) fun _ iD=>bd (al BinOp.add x39 (i64 1)) fun bY=>lg x0 x2 x7 x8 x37 x38 bY R iD)
 (bd (al BinOp.add x39 (i64 1)) fun dO=>lg x0 x2 x7 x8 x37 x38 dO R st)))))
 (bd (ldA st x8 6) fun iF=>bd (al BinOp.eql x7 (i64 0)) fun lE=>aq lE
 (bd (ldA st x8 6) fun lT=>bd (ck BinOp.add x0 (LV.str [10])) fun p7=>LZ 84 [lT] st fun p8 eQ=>ldA eQ x8 6=some iF∧bd (ck BinOp.eql p8 p7) fun p9=>bd2 (lmk (stV eQ 6 x2 iF)) fun _ iN=>BU x2 p9 R iN)
 (bd2 (lmk (stV st 6 x2 iF)) fun _ iS=>BU x2 (LV.bool false) R iS))
theorem HD (x0 x2 x7 x8 x37 x38 x39:LV) {R:LV.RT} {st:aa} (h:DR x0 x2 x7 x8 x37 x38 x39 R st):lg x0 x2 x7 x8 x37 x38 x39 R st:=
 pz NS NT h
def BV (x2 x3:LV) (R:LV.RT) (st:aa):Prop:=
 bd (ldA st x2 6) fun v0=>R (LV.tup [v0,x3]) st
theorem HE (x2 x3:LV) {R:LV.RT} {st:aa} (h:BV x2 x3 R st):BU x2 x3 R st:=
 pz NS NT h
def Mf (x2:LV) (R:LV.RT) (st:aa):Prop:=LTg Tryz.prog (kindOf false) [.tmp 2] (br Tryz.f84 1) [] R (.aY::.aY::x2::(LV.jk 12 [])) st
def PE:List (Nat × List Nat):=[(1,(LV.gx 0 15 [2]))]
def w84 (a0:LV) (R:LV.RT) (st:aa):Prop:=
 bd2 (cu st a0) fun v0 gT=>bd (ag 0 v0) fun v2=>bd (ld1 gT v2) fun v3=>bd (ck BinOp.add (LV.str [97,116,116,114,32]) v3) fun v4=>bd (ck BinOp.add v4 (LV.str [32])) fun v5=>bd (ag 1 v0) fun v6=>bd (ld1 gT v6) fun v7=>bd (ldA gT v0 6) fun v8=>LZ 38 [v7] gT fun v9 eQ=>ldA eQ v0 6=some v8∧
 ld1 eQ v2=some v3∧
 bd (ck BinOp.add v5 v9) fun iD=>LZ 148 [v8] eQ fun iF gE=>ld1 gE v2=some v3∧bd (ck BinOp.add iD iF) fun iN=>bd (ck BinOp.add iN (LV.str [10])) fun iS=>Mf iS R gE
theorem c84 (a0:LV) {R:LV.RT} {st:aa} (h:w84 a0 R st):LZ 84 [a0] st R:=
 cz [] PE [.tmp 2] Tryz.func84 h
def PF (x2:LV) (R:LV.RT) (st:aa):Prop:=
 R x2 st
theorem PG (x2:LV) {R:LV.RT} {st:aa} (h:PF x2 R st):Mf x2 R st:=
 pz [] PE h
def xi (x3 x14 x15:LV) (R:LV.RT) (st:aa):Prop:=LTg Tryz.prog (kindOf false) [.tmp 2] (br Tryz.f148 4) [] R (LV.jk 3 (x3::(LV.jk 10 (x14::x15::(LV.jk 11 []))))) st
def Mg:List Nat:=(LV.gx 0 27 [3,14,15])
def Q1 (a0:LV) (R:LV.RT) (st:aa):Prop:=
 bd2 (cu st a0) fun v0 eQ=>bd (ag 2 v0) fun v2=>bd (ld1 eQ v2) fun v3=>bd (ag 3 v0) fun v4=>bd (ld1 eQ v4) fun v5=>bd (ag 4 v0) fun v6=>bd (ld1 eQ v6) fun v7=>bd (ag 5 v0) fun v8=>bd (ld1 eQ v8) fun v9=>bd (bh (aB (fun i=>some (i*1,1)) [LV.bool false,LV.bool false,LV.bool false,LV.bool false] [(0,v3),(1,v5),(2,v7),(3,v9)])) fun gE=>xi (LV.str []) gE (i64 0) R eQ
theorem c148 (a0:LV) {R:LV.RT} {st:aa} (h:Q1 a0 R st):LZ 148 [a0] st R:=
 cz Mg [] [.tmp 2] Tryz.func148 h
def NU (x3 x14 x15:LV) (R:LV.RT) (st:aa):Prop:=
 bd (al BinOp.lss x15 (i64 4)) fun v0=>aq v0
 (bd (sr 4 (fun x j=>wh (j*1) x) x14 x15) fun v1=>aq v1
 (bd
 (bh
 (aB (fun i=>some (i*1,1)) [LV.str [],LV.str [],LV.str [],LV.str []]
 [(0,LV.str [32,109,117,115,116]),(1,LV.str [32,111,119,110]),(2,LV.str [32,104,105,100,101]),(3,LV.str [32,110,101,119])]))
 fun v2=>bd (sr 4 (fun x j=>wh (j*1) x) v2 x15) fun v3=>bd (ck BinOp.add x3 v3) fun v4=>bd (al BinOp.add x15 (i64 1)) fun v5=>xi v4 x14 v5 R st)
 (bd (al BinOp.add x15 (i64 1)) fun v6=>xi x3 x14 v6 R st))
 (R x3 st)
theorem tB (x3 x14 x15:LV) {R:LV.RT} {st:aa} (h:NU x3 x14 x15 R st):xi x3 x14 x15 R st:=
 pz Mg [] h
def w78 (a0:LV) (R:LV.RT) (st:aa):Prop:=
 bd (eqB BinOp.eql (sj a0 LV.nils)) fun v0=>aq v0 (R LV.nils st)
 (bd2 (cq st 0 (aB (fun i=>some (i*6,6)) (List.replicate 0 [LV.str [],LV.nilp,LV.bool false,LV.bool false,LV.bool false,LV.bool false]).flatten [])) fun v1 eQ=>bd2 (bo eQ 6 32 Md.rw v1 a0) fun v3 gE=>R v3 gE)
theorem c78 (a0:LV) {R:LV.RT} {st:aa} (h:w78 a0 R st):LZ 78 [a0] st R:=
 cz [] [] [.tmp 2] Tryz.func78 h
def zH (x3 x25 x26 x27:LV) (R:LV.RT) (st:aa):Prop:=LTg Tryz.prog (kindOf false) [.tmp 4,.tmp 5] (br Tryz.f41 6) [] R (LV.jk 3 (x3::(LV.jk 21 (x25::x26::x27::(LV.jk 20 []))))) st
def PH:List Nat:=(LV.gx 0 48 [3,25,26,27])
def w41 (a0 a1:LV) (R:LV.RT) (st:aa):Prop:=
 bd2 (cu st a1) fun v0 gE=>bd (ldA gE v0 1) fun v2=>LZ 110 [a0,v2] gE fun v3 eQ=>bd (ai v3 0) fun v5=>bd (ai v3 1) fun v6=>bd (al BinOp.neq v6 (i64 0)) fun v7=>aq v7 (R (LV.tup [v5,v6]) eQ) (bd (ak a0) fun v8=>bd (ag 1 v8) fun v9=>bd (ld1 eQ v9) fun gT=>bd (bB gT) fun iD=>zH v0 gT iD (i64 0) R eQ)
theorem c41 (a0 a1:LV) {R:LV.RT} {st:aa} (h:w41 a0 a1 R st):LZ 41 [a0,a1] st R:=
 cz PH [] [.tmp 4,.tmp 5] Tryz.func41 h
def HF (x3 x25 x26 x27:LV) (R:LV.RT) (st:aa):Prop:=
 bd (al BinOp.lss x27 x26) fun v0=>aq v0
 (bd (bn 6 x25 x27) fun v1=>bd (ldA st v1 6) fun v2=>nw st [LV.str [],LV.nilp,LV.bool false,LV.bool false,LV.bool false,LV.bool false] fun v3 mK=>bd2 (lmk (stV mK 6 v3 v2)) fun _ gT=>bd (ldA gT x3 1) fun v7=>bd (ag 0 v3) fun v8=>bd (ld1 gT v8) fun v9=>LZ 50 [v7,v9] gT fun iN iD=>bd (ai iN 0) fun nE=>bd (ai iN 1) fun _=>nw iD [LV.nili] fun iS iF=>bd2 (lmk (stV iF 1 iS nE)) fun _ eQ=>bd (ag 2 v3) fun oF=>bd (ld1 eQ oF) fun oR=>aq oR
 (bd (ldA eQ iS 1) fun rW=>LZ 46 [rW] eQ fun aS gE=>bd (al BinOp.eql aS (i64 0)) fun aT=>aq aT (bd (ag 0 v3) fun bY=>bd (ld1 gE bY) fun dO=>R (LV.tup [dO,i64 8]) gE)
 (bd (al BinOp.add x27 (i64 1)) fun lE=>zH x3 x25 x26 lE R gE))
 (bd (al BinOp.add x27 (i64 1)) fun lT=>zH x3 x25 x26 lT R eQ))
 (R (LV.tup [LV.str [],i64 0]) st)
theorem Mh (x3 x25 x26 x27:LV) {R:LV.RT} {st:aa} (h:HF x3 x25 x26 x27 R st):zH x3 x25 x26 x27 R st:=
 pz PH [] h
def DS (x3 x25 x26 x27:LV) (R:LV.RT) (st:aa):Prop:=LTg Tryz.prog (kindOf false) [.tmp 4,.tmp 5] (br Tryz.f43 6) [] R (LV.jk 3 (x3::(LV.jk 21 (x25::x26::x27::(LV.jk 15 []))))) st
def PI:List Nat:=(LV.gx 0 43 [3,25,26,27])
def w43 (a0 a1:LV) (R:LV.RT) (st:aa):Prop:=
 bd2 (cu st a1) fun v0 gE=>bd (ldA gE v0 1) fun v2=>LZ 110 [a0,v2] gE fun v3 eQ=>bd (ai v3 0) fun v5=>bd (ai v3 1) fun v6=>bd (al BinOp.neq v6 (i64 0)) fun v7=>aq v7 (R (LV.tup [v5,v6]) eQ) (bd (ak a0) fun v8=>bd (ag 1 v8) fun v9=>bd (ld1 eQ v9) fun gT=>bd (bB gT) fun iD=>DS v0 gT iD (i64 0) R eQ)
theorem c43 (a0 a1:LV) {R:LV.RT} {st:aa} (h:w43 a0 a1 R st):LZ 43 [a0,a1] st R:=
 cz PI [] [.tmp 4,.tmp 5] Tryz.func43 h
def HG (x3 x25 x26 x27:LV) (R:LV.RT) (st:aa):Prop:=
 bd (al BinOp.lss x27 x26) fun v0=>aq v0
 (bd (bn 6 x25 x27) fun v1=>bd (ldA st v1 6) fun v2=>nw st [LV.str [],LV.nilp,LV.bool false,LV.bool false,LV.bool false,LV.bool false] fun v3 iN=>bd2 (lmk (stV iN 6 v3 v2)) fun _ gE=>bd (ldA gE x3 1) fun v7=>bd (ag 0 v3) fun v8=>bd (ld1 gE v8) fun v9=>LZ 50 [v7,v9] gE fun iF gT=>bd (ai iF 0) fun iS=>bd (ai iF 1) fun mK=>nw gT [LV.nili] fun nE iD=>bd2 (lmk (stV iD 1 nE iS)) fun _ eQ=>bd (lun UnOp.not mK) fun oF=>aq oF (bd (ag 0 v3) fun oR=>bd (ld1 eQ oR) fun rW=>R (LV.tup [rW,i64 8]) eQ)
 (bd (al BinOp.add x27 (i64 1)) fun aS=>DS x3 x25 x26 aS R eQ))
 (R (LV.tup [LV.str [],i64 0]) st)
theorem Mi (x3 x25 x26 x27:LV) {R:LV.RT} {st:aa} (h:HG x3 x25 x26 x27 R st):DS x3 x25 x26 x27 R st:=
 pz PI [] h
def xj (x0 x6 x21 x22 x23:LV) (R:LV.RT) (st:aa):Prop:=LTg Tryz.prog (kindOf false) [.tmp 4,.tmp 5] (br Tryz.f110 9) [] R (x0::(LV.jk 5 (x6::(LV.jk 14 (x21::x22::x23::(LV.jk 25 [])))))) st
def Mj:List Nat:=(LV.gx 1 48 [6,21,22,23])
def NV (a0 a1:LV) (R:LV.RT) (st:aa):Prop:=
 bd2 (cu st a1) fun v0 eQ=>bd (eqB BinOp.eql (eI true a0 LV.nilp)) fun v2=>aq v2 (R (LV.tup [LV.str [],i64 11]) eQ)
 (bd (ldA eQ v0 1) fun v3=>LZ 46 [v3] eQ fun v4 gE=>bd (al BinOp.neq v4 (i64 7)) fun v6=>aq v6 (R (LV.tup [LV.str [],i64 6]) gE)
 (bd (ldA gE v0 1) fun v7=>LZ 101 [v7] gE fun v8 iD=>bd (ldA iD v0 1) fun iN=>LZ 49 [iN] iD fun iF gT=>bd (bB iF) fun iS=>xj a0 v8 iF iS (i64 0) R gT))
theorem PJ (a0 a1:LV) {R:LV.RT} {st:aa} (h:NV a0 a1 R st):LZ 110 [a0,a1] st R:=
 cz Mj [] [.tmp 4,.tmp 5] Tryz.func110 h
def BW (x0 x6 x21 x22 x23:LV) (R:LV.RT) (st:aa):Prop:=
 bd (al BinOp.lss x23 x22) fun v0=>aq v0
 (bd (bn 1 x21 x23) fun v1=>bd (ld1 st v1) fun v2=>LZ 39 [x0,v2] st fun v3 gT=>bd (ai v3 0) fun v5=>bd (ai v3 1) fun v6=>nw gT [LV.str [],LV.nilp,LV.bool false,LV.bool false,LV.bool false,LV.bool false] fun v7 iD=>bd2 (lmk (stV iD 6 v7 v5)) fun _ eQ=>bd (lun UnOp.not v6) fun iF=>aq iF (R (LV.tup [v2,i64 7]) eQ)
 (bd (ag 1 v7) fun iN=>bd (ld1 eQ iN) fun iS=>bd (bn 1 x6 x23) fun mK=>bd (ldA eQ mK 1) fun nE=>LZ 53 [iS,nE] eQ fun oF gE=>bd (lun UnOp.not oF) fun oR=>aq oR (R (LV.tup [v2,i64 6]) gE) (bd (al BinOp.add x23 (i64 1)) fun rW=>xj x0 x6 x21 x22 rW R gE)))
 (R (LV.tup [LV.str [],i64 0]) st)
theorem HH (x0 x6 x21 x22 x23:LV) {R:LV.RT} {st:aa} (h:BW x0 x6 x21 x22 x23 R st):xj x0 x6 x21 x22 x23 R st:=
 pz Mj [] h
def iy (x0 x2 x5 x6 x7 x8 x9 x10 x11:LV) (R:LV.RT) (st:aa):Prop:=LTg Tryz.prog (kindOf false) [.cell 2 52,.tmp 3,.tmp 4] (br Tryz.f35 5) [] R (x0::.aY::x2::.aY::.aY::x5::x6::x7::x8::x9::x10::x11::(LV.jk 129 [])) st
def qu (x0 x2 x5 x6 x7 x8 x9 x10 x11:LV) (R:LV.RT) (st:aa):Prop:=LTg Tryz.prog (kindOf false) [.cell 2 52,.tmp 3,.tmp 4] (br Tryz.f35 16) [] R (x0::.aY::x2::.aY::.aY::x5::x6::x7::x8::x9::x10::x11::(LV.jk 129 [])) st
def NW:List Nat:=(LV.gx 1 140 [2,5,6,7,8,9,10,11])
def w35 (a0:LV) (R:LV.RT) (st:aa):Prop:=
 nw st [i64 0,LV.nils] fun v0 eQ=>nw eQ [i64 0,LV.nils] fun v2 gE=>iy a0 v0 v2 (i64 0) (i64 0) (i64 0) (LV.tup []) (LV.tup []) (LV.tup []) R gE
theorem c35 (a0:LV) {R:LV.RT} {st:aa} (h:w35 a0 R st):LZ 35 [a0] st R:=
 cz NW [] [.cell 2 52,.tmp 3,.tmp 4] Tryz.func35 h
def kK (x2 gT v7:LV) (gE:aa) (R:LV.RT):Prop:=
 bd2 (lmk (stV gE 2 x2 gT)) fun _ eQ=>bd (ldA eQ x2 2) fun iD=>R (LV.tup [iD,v7,i64 4]) eQ
def mA (x5 iF x8 x0 x2 v6 v7 v5 x10 x11:LV) (eQ:aa) (R:LV.RT):Prop:=
 bd (ag 1 x5) fun iN=>bd (ld1 eQ iN) fun iS=>bd (ldA eQ iF 10) fun mK=>bd2 (cq eQ 1 (aB (fun i=>some (i*10,10)) (List.replicate 1 [LV.str [],LV.str [],i64 0,LV.nils,
 LV.nils,LV.nils,LV.bool false,LV.bool false,LV.bool false,LV.bool false]).flatten [(0,mK)])) fun nE gE=>bd2 (bo gE 10 120 Md.rw iS nE) fun oF gT=>bd (ag 1 x5) fun oR=>bd2 (lmk (stV gT 1
 oR oF)) fun _ iD=>bd (al BinOp.add x8 (i64 1)) fun rW=>iy x0 x2 x5 v6 v7 rW v5 x10 x11 R iD
def mB (gT x2 v7 x5 x8 x0 v6 v5 x10 x11:LV) (eQ:aa) (R:LV.RT):Prop:=
 bd (ag 6 gT) fun iD=>bd (ld1 eQ iD) fun iF=>aq iF (bd (ag 7 gT) fun iN=>bd (ld1 eQ iN) fun iS=>aq iS (bd (bh (aB (aF [(0,1),(1,1)]) [i64 0,LV.nils] [])) fun
 mK=>bd2 (lmk (stV eQ 2 x2 mK)) fun _ gE=>bd (ldA gE x2 2) fun nE=>R (LV.tup [nE,v7,i64 1]) gE) (mA x5 gT x8 x0 x2 v6 v7 v5 x10 x11 eQ R)) (mA x5 gT x8 x0 x2 v6 v7 v5
 x10 x11 eQ R)
def mD (gT gE x5 x2 v7 x8 x0 v6 v5 x10 x11:LV) (eQ:aa) (R:LV.RT):Prop:=
 bd (al BinOp.gtr gT (i64 0)) fun iD=>aq iD (bd (ag 0 gE) fun iF=>bd (ld1 eQ iF) fun iN=>bd (ag 1 x5) fun iS=>bd (ld1 eQ iS) fun mK=>bd (al BinOp.sub gT (LV.int
 IntKind.i64 1)) fun nE=>bd (bn 10 mK nE) fun oF=>bd (ag 0 oF) fun oR=>bd (ld1 eQ oR) fun rW=>bd (ck BinOp.lss iN rW) fun aS=>aq aS (bd (bh (aB (aF [(0,1),(1,1)]) [LV.int
 IntKind.i64 0,LV.nils] [])) fun aT=>kK x2 aT v7 eQ R) (mB gE x2 v7 x5 x8 x0 v6 v5 x10 x11 eQ R)) (mB gE x2 v7 x5 x8 x0 v6 v5 x10 x11 eQ R)
def mF (x7 x2:LV) (st:aa) (R:LV.RT):Prop:=
 bd (bh (aB (aF [(0,1),(1,1)]) [i64 0,LV.nils] [])) fun eQ=>bd (al BinOp.add x7 (i64 1)) fun gE=>kK x2 eQ gE st R
def zI (x0 x2 x5 x6 x7 x8 x9 x10 x11:LV) (R:LV.RT) (st:aa):Prop:=
 bd (cm x0) fun v0=>bd (al BinOp.lss x8 v0) fun v1=>aq v1 (bd (dJ x0 x8) fun v2=>bd (al BinOp.neq v2 (LV.int IntKind.u8 10)) fun v3=>aq v3 (bd (al BinOp.add x8 (i64 1)) fun v4=>iy x0 x2 x5 x6 x7 v4 x9 x10 x11 R st) (bd (ob3 (some x6) (some x8) none fun l h m=>dm x0 l h m) fun v5=>bd (al BinOp.add x8 (i64 1)) fun v6=>bd (al BinOp.add x7 (i64 1)) fun
 v7=>bd (al BinOp.eql v7 (i64 1)) fun v8=>aq v8 (qu x0 x2 x5 v6 v7 x8 v5 (i64 (-1)) (i64 0) R st) (LZ 106 [v5] st fun v9 nE=>bd (ai v9 0)
 fun dO=>bd (ai v9 1) fun lE=>nw nE [LV.str [],LV.str [],i64 0,LV.nils,LV.nils,LV.nils,LV.bool false,LV.bool false,LV.bool false,LV.bool false] fun iD oF=>bd2 (lmk (stV oF 10
 iD dO)) fun _ gE=>bd (lun UnOp.not lE) fun lT=>aq lT (bd (bh (aB (aF [(0,1),(1,1)]) [i64 0,LV.nils] [])) fun p7=>kK x2 p7 v7 gE R) (bd (ag 1 x5) fun p8=>bd
 (ld1 gE p8) fun p9=>bd (bB p9) fun iF=>bd (al BinOp.eql iF (i64 16)) fun tO=>aq tO (bd (bh (aB (aF [(0,1),(1,1)]) [i64 0,LV.nils] [])) fun v26=>bd2
 (lmk (stV gE 2 x2 v26)) fun _v27 iN=>bd (ldA iN x2 2) fun v29=>R (LV.tup [v29,v7,i64 3]) iN) (bd (ag 0 iD) fun v30=>bd (ld1 gE v30) fun v31=>LZ 19 [v31] gE fun v32
 eQ=>bd (lun UnOp.not v32) fun v34=>aq v34 (bd (bh (aB (aF [(0,1),(1,1)]) [i64 0,LV.nils] [])) fun v35=>bd2 (lmk (stV eQ 2 x2 v35)) fun _v36 iS=>bd (ldA iS x2 2) fun v38=>R (LV.tup [v38,v7,i64 7]) iS) (bd (al BinOp.gtr iF (i64 0)) fun v39=>aq v39 (bd (ag 0 iD) fun v40=>bd (ld1 eQ v40) fun v41=>bd (ag 1 x5) fun v42=>bd (ld1 eQ v42)
 fun v43=>bd (al BinOp.sub iF (i64 1)) fun v44=>bd (bn 10 v43 v44) fun v45=>bd (ag 0 v45) fun v46=>bd (ld1 eQ v46) fun v47=>bd (ck BinOp.eql v41 v47) fun v48=>aq v48 (bd (bh
 (aB (aF [(0,1),(1,1)]) [i64 0,LV.nils] [])) fun v49=>bd2 (lmk (stV eQ 2 x2 v49)) fun _v50 mK=>bd (ldA mK x2 2) fun v52=>R (LV.tup [v52,v7,i64 9]) mK) (mD
 iF iD x5 x2 v7 x8 x0 v6 v5 x10 x11 eQ R)) (mD iF iD x5 x2 v7 x8 x0 v6 v5 x10 x11 eQ R))))))) (bd (cm x0) fun oR=>bd (al BinOp.lss x6 oR) fun rW=>aq rW (mF x7 x2 st R) (bd (al
 BinOp.eql x7 (i64 0)) fun aS=>aq aS (mF x7 x2 st R) (bd (ldA st x5 2) fun aT=>bd2 (lmk (stV st 2 x2 aT)) fun _ gT=>bd (ldA gT x2 2) fun bY=>R (LV.tup [bY,LV.int
 IntKind.i64 0,i64 0]) gT)))
theorem DT (x0 x2 x5 x6 x7 x8 x9 x10 x11:LV) {R:LV.RT} {st:aa} (h:zI x0 x2 x5 x6 x7 x8 x9 x10 x11 R st):iy x0 x2 x5 x6 x7 x8 x9 x10 x11 R st:=
 pz NW [] h
def xk (x0 x2 x5 x6 x7 x8 x9 x10 x11:LV) (R:LV.RT) (st:aa):Prop:=
 bd (al BinOp.leq x11 (i64 1000)) fun v0=>aq v0
 (bd (al BinOp.lss x10 (i64 0)) fun v1=>aq v1
 (bd (cm x9) fun v2=>bd (al BinOp.lss v2 (i64 14)) fun v3=>aq v3
 (LZ 104 [x11] st fun v4 oF=>bd (ck BinOp.add (LV.str [118,101,114,115,105,111,110,32]) v4) fun v6=>bd (ck BinOp.eql x9 v6) fun v7=>aq v7 (bd (al BinOp.add x11 (i64 1)) fun v8=>qu x0 x2 x5 x6 x7 x8 x9 x11 v8 R oF)
 (bd (al BinOp.add x11 (i64 1)) fun v9=>qu x0 x2 x5 x6 x7 x8 x9 x10 v9 R oF))
 (bd (al BinOp.lss x10 (i64 0)) fun oR=>aq oR
 (bd (bh (aB (aF [(0,1),(1,1)]) [i64 0,LV.nils] [])) fun rW=>LZ 105 [x9] st fun aS iD=>bd2 (lmk (stV iD 2 x2 rW)) fun _ eQ=>bd (ldA eQ x2 2) fun aT=>R (LV.tup [aT,i64 1,aS]) eQ)
 (bd (ag 0 x5) fun bY=>bd2 (lmk (stV st 1 bY x10)) fun _ iF=>bd (al BinOp.add x8 (i64 1)) fun dO=>iy x0 x2 x5 x6 x7 dO x9 x10 x11 R iF)))
 (bd (al BinOp.lss x10 (i64 0)) fun lE=>aq lE
 (bd (bh (aB (aF [(0,1),(1,1)]) [i64 0,LV.nils] [])) fun lT=>LZ 105 [x9] st fun p7 iN=>bd2 (lmk (stV iN 2 x2 lT)) fun _ gE=>bd (ldA gE x2 2) fun p8=>R (LV.tup [p8,i64 1,p7]) gE)
 (bd (ag 0 x5) fun p9=>bd2 (lmk (stV st 1 p9 x10)) fun _ iS=>bd (al BinOp.add x8 (i64 1)) fun tO=>iy x0 x2 x5 x6 x7 tO x9 x10 x11 R iS)))
 (bd (al BinOp.lss x10 (i64 0)) fun v32=>aq v32
 (bd (bh (aB (aF [(0,1),(1,1)]) [i64 0,LV.nils] [])) fun v33=>LZ 105 [x9] st fun v34 mK=>bd2 (lmk (stV mK 2 x2 v33)) fun _v36 gT=>bd (ldA gT x2 2) fun v38=>R (LV.tup [v38,i64 1,v34]) gT)
 (bd (ag 0 x5) fun v39=>bd2 (lmk (stV st 1 v39 x10)) fun _v40 nE=>bd (al BinOp.add x8 (i64 1)) fun v42=>iy x0 x2 x5 x6 x7 v42 x9 x10 x11 R nE))
theorem BX (x0 x2 x5 x6 x7 x8 x9 x10 x11:LV) {R:LV.RT} {st:aa} (h:xk x0 x2 x5 x6 x7 x8 x9 x10 x11 R st):qu x0 x2 x5 x6 x7 x8 x9 x10 x11 R st:=
 pz NW [] h
def w19 (a0:LV) (R:LV.RT) (st:aa):Prop:=
 LZ 77 [a0,i64 0] st fun v0 gE=>nw gE [i64 0,i64 0] fun v2 gT=>bd2 (lmk (stV gT 2 v2 v0)) fun _ eQ=>bd (ag 1 v2) fun v6=>bd (ld1 eQ v6) fun v7=>bd (al BinOp.eql v7 (i64 0)) fun v8=>aq v8 (bd (ag 0 v2) fun v9=>bd (ld1 eQ v9) fun iD=>bd (cm a0) fun iF=>bd (al BinOp.eql iD iF) fun iN=>R iN eQ) (R (LV.bool false) eQ)
theorem c19 (a0:LV) {R:LV.RT} {st:aa} (h:w19 a0 R st):LZ 19 [a0] st R:=
 cz [] [] [.tmp 2] Tryz.func19 h
def DU (x1 x2 x5:LV) (R:LV.RT) (st:aa):Prop:=LTg Tryz.prog (kindOf false) [.tmp 4] (br Tryz.f40 3) [] R (.aY::x1::x2::.aY::.aY::x5::(LV.jk 16 [])) st
def PK:List Nat:=(LV.gx 0 22 [1,2,5])
def w40 (a0 a1:LV) (R:LV.RT) (st:aa):Prop:=
 bd2 (cu st a0) fun v0 eQ=>DU a1 v0 (i64 0) R eQ
theorem c40 (a0 a1:LV) {R:LV.RT} {st:aa} (h:w40 a0 a1 R st):LZ 40 [a0,a1] st R:=
 cz PK [] [.tmp 4] Tryz.func40 h
def HI (x1 x2 x5:LV) (R:LV.RT) (st:aa):Prop:=
 bd (ag 1 x2) fun v0=>bd (ld1 st v0) fun v1=>bd (bB v1) fun v2=>bd (al BinOp.lss x5 v2) fun v3=>aq v3
 (bd (ag 1 x2) fun v4=>bd (ld1 st v4) fun v5=>bd (bn 10 v5 x5) fun v6=>bd (ag 0 v6) fun v7=>bd (ld1 st v7) fun v8=>bd (ck BinOp.eql v8 x1) fun v9=>aq v9 (R x5 st) (bd (al BinOp.add x5 (i64 1)) fun eQ=>DU x1 x2 eQ R st))
 (R (i64 (-1)) st)
theorem Ml (x1 x2 x5:LV) {R:LV.RT} {st:aa} (h:HI x1 x2 x5 R st):DU x1 x2 x5 R st:=
 pz PK [] h
def zJ (x2 x3 x8:LV) (R:LV.RT) (st:aa):Prop:=LTg Tryz.prog (kindOf false) [.tmp 4,.tmp 5] (br Tryz.f44 6) [] R (.aY::.aY::x2::x3::(LV.jk 4 (x8::(LV.jk 41 [])))) st
def PL:List Nat:=(LV.gx 0 50 [2,3,8])
def w44 (a0 a1:LV) (R:LV.RT) (st:aa):Prop:=
 bd2 (cu st a0) fun v0 gT=>bd2 (cu gT a1) fun v2 eQ=>bd (ldA eQ v0 2) fun v4=>bd (ldA eQ v2 7) fun v5=>LZ 111 [v4,v5] eQ fun v6 gE=>bd (ai v6 0) fun v8=>bd (ai v6 1) fun v9=>bd (al BinOp.neq v9 (i64 0)) fun iD=>aq iD (R (LV.tup [v8,v9]) gE) (zJ v0 v2 (i64 0) R gE)
theorem c44 (a0 a1:LV) {R:LV.RT} {st:aa} (h:w44 a0 a1 R st):LZ 44 [a0,a1] st R:=
 cz PL [] [.tmp 4,.tmp 5] Tryz.func44 h
def HJ (x2 x3 x8:LV) (R:LV.RT) (st:aa):Prop:=
 bd (ag 1 x2) fun v0=>bd (ld1 st v0) fun v1=>bd (bB v1) fun v2=>bd (al BinOp.lss x8 v2) fun v3=>aq v3
 (bd (ag 1 x2) fun v4=>bd (ld1 st v4) fun v5=>bd (bn 10 v5 x8) fun v6=>bd (ag 6 v6) fun v7=>bd (ld1 st v7) fun v8=>aq v8
 (bd (ldA st x3 7) fun v9=>bd (ag 1 x2) fun gE=>bd (ld1 st gE) fun gT=>bd (bn 10 gT x8) fun iD=>bd (ag 0 iD) fun iF=>bd (ld1 st iF) fun iN=>LZ 103 [v9,iN] st fun iS eQ=>bd (wh 0 iS) fun mK=>bd (al BinOp.eql mK (i64 0)) fun nE=>aq nE
 (bd (ag 1 x2) fun oF=>bd (ld1 eQ oF) fun oR=>bd (bn 10 oR x8) fun rW=>bd (ag 0 rW) fun aS=>bd (ld1 eQ aS) fun aT=>R (LV.tup [aT,i64 8]) eQ)
 (bd (al BinOp.add x8 (i64 1)) fun bY=>zJ x2 x3 bY R eQ))
 (bd (al BinOp.add x8 (i64 1)) fun dO=>zJ x2 x3 dO R st))
 (R (LV.tup [LV.str [],i64 0]) st)
theorem Mm (x2 x3 x8:LV) {R:LV.RT} {st:aa} (h:HJ x2 x3 x8 R st):zJ x2 x3 x8 R st:=
 pz PL [] h
def DV (x2 x3 x8:LV) (R:LV.RT) (st:aa):Prop:=LTg Tryz.prog (kindOf false) [.tmp 4,.tmp 5] (br Tryz.f45 6) [] R (.aY::.aY::x2::x3::(LV.jk 4 (x8::(LV.jk 32 [])))) st
def PM:List Nat:=(LV.gx 0 41 [2,3,8])
def w45 (a0 a1:LV) (R:LV.RT) (st:aa):Prop:=
 bd2 (cu st a0) fun v0 gT=>bd2 (cu gT a1) fun v2 eQ=>bd (ldA eQ v0 2) fun v4=>bd (ldA eQ v2 7) fun v5=>LZ 111 [v4,v5] eQ fun v6 gE=>bd (ai v6 0) fun v8=>bd (ai v6 1) fun v9=>bd (al BinOp.neq v9 (i64 0)) fun iD=>aq iD (R (LV.tup [v8,v9]) gE) (DV v0 v2 (i64 0) R gE)
theorem c45 (a0 a1:LV) {R:LV.RT} {st:aa} (h:w45 a0 a1 R st):LZ 45 [a0,a1] st R:=
 cz PM [] [.tmp 4,.tmp 5] Tryz.func45 h
def HK (x2 x3 x8:LV) (R:LV.RT) (st:aa):Prop:=
 bd (ag 1 x2) fun v0=>bd (ld1 st v0) fun v1=>bd (bB v1) fun v2=>bd (al BinOp.lss x8 v2) fun v3=>aq v3
 (bd (ldA st x3 7) fun v4=>bd (ag 1 x2) fun v5=>bd (ld1 st v5) fun v6=>bd (bn 10 v6 x8) fun v7=>bd (ag 0 v7) fun v8=>bd (ld1 st v8) fun v9=>LZ 112 [v4,v9] st fun gE eQ=>bd (al BinOp.lss gE (i64 0)) fun gT=>aq gT
 (bd (ag 1 x2) fun iD=>bd (ld1 eQ iD) fun iF=>bd (bn 10 iF x8) fun iN=>bd (ag 0 iN) fun iS=>bd (ld1 eQ iS) fun mK=>R (LV.tup [mK,i64 8]) eQ)
 (bd (al BinOp.add x8 (i64 1)) fun nE=>DV x2 x3 nE R eQ))
 (R (LV.tup [LV.str [],i64 0]) st)
theorem Mn (x2 x3 x8:LV) {R:LV.RT} {st:aa} (h:HK x2 x3 x8 R st):DV x2 x3 x8 R st:=
 pz PM [] h
def PN (a0 a1:LV) (R:LV.RT) (st:aa):Prop:=
 bd2 (cu st a0) fun v0 iF=>nw iF [i64 0,LV.bool false,i64 0,i64 0,LV.str [],LV.nils,LV.nils] fun v2 iD=>bd (ldA iD v0 7) fun v4=>LZ 112 [v4,a1] iD fun v5 gT=>bd (al BinOp.lss v5 (i64 0)) fun v7=>aq v7
 (bd
 (bh
 (aB (aF [(0,1),(1,1),(2,1),(3,1),(4,1),(5,1),(6,1)]) [i64 0,LV.bool false,i64 0,i64 0,LV.str [],LV.nils,LV.nils]
 []))
 fun v8=>bd2 (lmk (stV gT 7 v2 v8)) fun _ eQ=>bd (ldA eQ v2 7) fun iN=>R iN eQ)
 (bd (ag 5 v0) fun iS=>bd (ld1 gT iS) fun mK=>bd (bn 7 mK v5) fun nE=>bd (ldA gT nE 7) fun oF=>bd2 (lmk (stV gT 7 v2 oF)) fun _ gE=>bd (ldA gE v2 7) fun oR=>R oR gE)
theorem Q2 (a0 a1:LV) {R:LV.RT} {st:aa} (h:PN a0 a1 R st):LZ 103 [a0,a1] st R:=
 cz [] [] [.cell 4 49] Tryz.func103 h
def xl (x1 x2 x5:LV) (R:LV.RT) (st:aa):Prop:=LTg Tryz.prog (kindOf false) [.tmp 4] (br Tryz.f112 3) [] R (.aY::x1::x2::.aY::.aY::x5::(LV.jk 20 [])) st
def Mo:List Nat:=(LV.gx 0 26 [1,2,5])
def PO (a0 a1:LV) (R:LV.RT) (st:aa):Prop:=
 bd2 (cu st a0) fun v0 eQ=>xl a1 v0 (i64 0) R eQ
theorem Q3 (a0 a1:LV) {R:LV.RT} {st:aa} (h:PO a0 a1 R st):LZ 112 [a0,a1] st R:=
 cz Mo [] [.tmp 4] Tryz.func112 h
def xm (x1 x2 x5:LV) (R:LV.RT) (st:aa):Prop:=
 bd (ag 5 x2) fun v0=>bd (ld1 st v0) fun v1=>bd (bB v1) fun v2=>bd (al BinOp.lss x5 v2) fun v3=>aq v3
 (bd (ag 0 x2) fun v4=>bd (ld1 st v4) fun v5=>bd (al BinOp.eql v5 (i64 7)) fun v6=>aq v6
 (bd (ag 6 x2) fun v7=>bd (ld1 st v7) fun v8=>bd (bn 1 v8 x5) fun v9=>bd (ld1 st v9) fun eQ=>bd (ck BinOp.eql eQ x1) fun gE=>aq gE (R x5 st) (bd (al BinOp.add x5 (i64 1)) fun gT=>xl x1 x2 gT R st))
 (R (i64 (-1)) st))
 (R (i64 (-1)) st)
theorem BZ (x1 x2 x5:LV) {R:LV.RT} {st:aa} (h:xm x1 x2 x5 R st):xl x1 x2 x5 R st:=
 pz Mo [] h
def mG (x3 x5:LV) (R:LV.RT) (st:aa):Prop:=LTg Tryz.prog (kindOf false) [.tmp 2] (br Tryz.f105 12) [] R (LV.jk 3 (x3::.aY::x5::(LV.jk 59 []))) st
def Mp:List Nat:=(LV.gx 0 65 [3,5])
def tC (v7:LV) (st:aa) (R:LV.RT):Prop:=
 bd (dJ v7 (i64 0)) fun eQ=>bd (al BinOp.lss eQ (LV.int IntKind.u8 49)) fun gE=>aq gE (R (i64 4) st) (bd (dJ v7 (i64 0)) fun gT=>bd (al BinOp.gtr gT
 (LV.int IntKind.u8 57)) fun iD=>aq iD (R (i64 4) st) (mG v7 (i64 0) R st))
def PQ (a0:LV) (R:LV.RT) (st:aa):Prop:=
 bd (cm a0) fun v0=>bd (al BinOp.leq v0 (i64 8)) fun v1=>aq v1 (R (i64 4) st) (bd (ob3 none (some (i64 8)) none fun l h m=>dm a0 l h m) fun v2=>bd (ck
 BinOp.neq v2 (LV.str [118,101,114,115,105,111,110,32])) fun v3=>aq v3 (R (i64 4) st) (bd (ob3 (some (i64 8)) none none fun l h m=>dm a0 l h m) fun v4=>bd (dJ v4 (LV.int
 IntKind.i64 0)) fun v5=>bd (al BinOp.eql v5 (LV.int IntKind.u8 45)) fun v6=>aq v6 (bd (ob3 (some (i64 1)) none none fun l h m=>dm v4 l h m) fun v7=>bd (cm v7) fun v8=>bd (al
 BinOp.eql v8 (i64 0)) fun v9=>aq v9 (R (i64 4) st) (bd (cm v7) fun eQ=>bd (al BinOp.gtr eQ (i64 19)) fun gE=>aq gE (R (i64 4) st) (bd
 (cm v7) fun gT=>bd (al BinOp.eql gT (i64 19)) fun iD=>aq iD (bd (ck BinOp.gtr v7 (LV.str [57,50,50,51,51,55,50,48,51,54,56,53,52,55,55,53,56,48,56])) fun iF=>aq
 iF (R (i64 4) st) (tC v7 st R)) (tC v7 st R)))) (bd (cm v4) fun iN=>bd (al BinOp.eql iN (i64 0)) fun iS=>aq iS (R (i64 4) st) (bd (cm v4) fun mK
 => bd (al BinOp.gtr mK (i64 19)) fun nE=>aq nE (R (i64 4) st) (bd (cm v4) fun oF=>bd (al BinOp.eql oF (i64 19)) fun oR=>aq oR (bd (ck BinOp.gtr v4
 (LV.str [57,50,50,51,51,55,50,48,51,54,56,53,52,55,55,53,56,48,55])) fun rW=>aq rW (R (i64 4) st) (tC v4 st R)) (tC v4 st R))))))
theorem c105 (a0:LV) {R:LV.RT} {st:aa} (h:PQ a0 R st):LZ 105 [a0] st R:=
 cz Mp [] [.tmp 2] Tryz.func105 h
def xn (x3 x5:LV) (R:LV.RT) (st:aa):Prop:=
 bd (cm x3) fun v0=>bd (al BinOp.lss x5 v0) fun v1=>aq v1
 (bd (dJ x3 x5) fun v2=>bd (al BinOp.lss v2 (LV.int IntKind.u8 48)) fun v3=>aq v3 (R (i64 4) st)
 (bd (dJ x3 x5) fun v4=>bd (al BinOp.gtr v4 (LV.int IntKind.u8 57)) fun v5=>aq v5 (R (i64 4) st) (bd (al BinOp.add x5 (i64 1)) fun v6=>mG x3 v6 R st)))
 (R (i64 2) st)
theorem DW (x3 x5:LV) {R:LV.RT} {st:aa} (h:xn x3 x5 R st):mG x3 x5 R st:=
 pz Mp [] h
def HL (x0 x2 x4 x5:LV) (R:LV.RT) (st:aa):Prop:=LTg Tryz.prog (kindOf false) [.cell 2 31,.tmp 3] (br Tryz.f106 4) [] R (x0::.aY::x2::.aY::x4::x5::(LV.jk 81 [])) st
def lS (x0 x2 x4 x5 x6:LV) (R:LV.RT) (st:aa):Prop:=LTg Tryz.prog (kindOf false) [.cell 2 31,.tmp 3] (br Tryz.f106 7) [] R (x0::.aY::x2::.aY::x4::x5::x6::(LV.jk 80 [])) st
def xo (x2 x3:LV) (R:LV.RT) (st:aa):Prop:=LTg Tryz.prog (kindOf false) [.cell 2 31,.tmp 3] (br Tryz.f106 17) [] R (.aY::.aY::x2::x3::(LV.jk 83 [])) st
def DX:List Nat:=(LV.gx 1 86 [2,4,5,6])
def DY:List (Nat × List Nat):=[(4,(LV.gx 1 86 [2,4,5])),(14,(LV.gx 0 87 [2,3]))]
def PR (a0:LV) (R:LV.RT) (st:aa):Prop:=
 nw st [LV.str [],LV.str [],i64 0,LV.nils,LV.nils,LV.nils,LV.bool false,LV.bool false,LV.bool false,LV.bool false] fun v0 oF=>LZ 160 [a0] oF fun v2 gE=>bd (bB v2) fun v4=>bd (al BinOp.lss v4 (i64 3)) fun v5=>aq v5
 (bd
 (bh
 (aB (aF [(0,1),(1,1),(2,4),(6,1),(7,1),(8,1),(9,1)])
 [LV.str [],LV.str [],i64 0,LV.nils,LV.nils,LV.nils,LV.bool false,LV.bool false,LV.bool false,LV.bool false] []))
 fun v6=>bd2 (lmk (stV gE 10 v0 v6)) fun _ iD=>bd (ldA iD v0 10) fun v9=>R (LV.tup [v9,LV.bool false]) iD)
 (bd (bn 1 v2 (i64 1)) fun iF=>bd (ld1 gE iF) fun iN=>bd (bn 1 v2 (i64 2)) fun iS=>bd (ld1 gE iS) fun mK=>bd
 (bh
 (aB (aF [(0,1),(1,1),(2,4),(6,1),(7,1),(8,1),(9,1)])
 [LV.str [],LV.str [],i64 0,LV.nils,LV.nils,LV.nils,LV.bool false,LV.bool false,LV.bool false,LV.bool false] [(0,iN),(1,mK)]))
 fun oR=>nw gE [LV.str [],LV.str [],i64 0,LV.nils,LV.nils,LV.nils,LV.bool false,LV.bool false,LV.bool false,LV.bool false] fun nE eQ=>ld1 eQ iS=some mK∧ld1 eQ iF=some iN∧bd2 (lmk (stV eQ 10 nE oR)) fun _ gT=>HL a0 v0 v2 nE R gT)
theorem Q4 (a0:LV) {R:LV.RT} {st:aa} (h:PR a0 R st):LZ 106 [a0] st R:=
 cz DX DY [.cell 2 31,.tmp 3] Tryz.func106 h
def HM (x0 x2 x4 x5:LV) (R:LV.RT) (st:aa):Prop:=
 lS x0 x2 x4 x5 (i64 3) R st
theorem NX (x0 x2 x4 x5:LV) {R:LV.RT} {st:aa} (h:HM x0 x2 x4 x5 R st):HL x0 x2 x4 x5 R st:=
 pz DX DY h
def oO (x5 x6 x0 x2 x4:LV) (eQ:aa) (R:LV.RT):Prop:=
 bd (ag 9 x5) fun iD=>bd (ld1 eQ iD) fun iF=>aq iF (bd (ag 9 x5) fun iN=>bd2 (lmk (stV eQ 1 iN (LV.bool true))) fun _ gE=>bd (al BinOp.add x6 (i64 1)) fun iS=>lS x0
 x2 x4 x5 iS R gE) (bd (bn 1 x4 x6) fun mK=>bd (ld1 eQ mK) fun nE=>bd (ck BinOp.eql nE (LV.str [110,101,119])) fun oF=>bd (ag 9 x5) fun oR=>bd2 (lmk (stV eQ 1 oR oF)) fun _ gT=>bd
 (al BinOp.add x6 (i64 1)) fun rW=>lS x0 x2 x4 x5 rW R gT)
def oP (x5 x6 x0 x2 x4:LV) (eQ:aa) (R:LV.RT):Prop:=
 bd (ag 8 x5) fun iD=>bd (ld1 eQ iD) fun iF=>aq iF (bd (ag 8 x5) fun iN=>bd2 (lmk (stV eQ 1 iN (LV.bool true))) fun _ gE=>oO x5 x6 x0 x2 x4 gE R) (bd (bn 1 x4 x6) fun iS=>bd
 (ld1 eQ iS) fun mK=>bd (ck BinOp.eql mK (LV.str [104,105,100,101])) fun nE=>bd (ag 8 x5) fun oF=>bd2 (lmk (stV eQ 1 oF nE)) fun _ gT=>oO x5 x6 x0 x2 x4 gT R)
def oQ (x5 x6 x0 x2 x4:LV) (eQ:aa) (R:LV.RT):Prop:=
 bd (ag 7 x5) fun v7=>bd (ld1 eQ v7) fun v8=>aq v8 (bd (ag 7 x5) fun v9=>bd2 (lmk (stV eQ 1 v9 (LV.bool true))) fun _ gE=>oP x5 x6 x0 x2 x4 gE R) (bd (bn 1 x4 x6) fun iD=>bd (ld1 eQ
 iD) fun iF=>bd (ck BinOp.eql iF (LV.str [111,119,110])) fun iN=>bd (ag 7 x5) fun iS=>bd2 (lmk (stV eQ 1 iS iN)) fun _ gT=>oP x5 x6 x0 x2 x4 gT R)
def B0 (x0 x2 x4 x5 x6:LV) (R:LV.RT) (st:aa):Prop:=
 bd (bB x4) fun v0=>bd (al BinOp.lss x6 v0) fun v1=>aq v1 (bd (ag 6 x5) fun v2=>bd (ld1 st v2) fun v3=>aq v3 (bd (ag 6 x5) fun v4=>bd2 (lmk (stV st 1 v4 (LV.bool true))) fun _v5 st6=>oQ
 x5 x6 x0 x2 x4 st6 R) (bd (bn 1 x4 x6) fun v92=>bd (ld1 st v92) fun v93=>bd (ck BinOp.eql v93 (LV.str [109,117,115,116])) fun v94=>bd (ag 6 x5) fun v95=>bd2 (lmk (stV st 1 v95 v94)) fun _v96 aT=>oQ x5 x6 x0 x2 x4 aT R)) (bd (bn 1 x4 (i64 2)) fun bY=>bd (ld1 st bY) fun dO=>LZ 161 [dO] st fun iF iN=>bd (ai iF 0) fun lE=>bd (ai iF 1) fun
 lT=>nw iN [i64 0,LV.nils,LV.nils,LV.nils] fun iS mK=>nw mK [i64 0,i64 0] fun nE oF=>bd2 (lmk (stV oF 4 iS lE)) fun _v193 oR=>bd2 (lmk
 (stV oR 2 nE lT)) fun _v195 gE=>bd (ldA gE iS 4) fun p7=>bd (ag 2 x5) fun p8=>bd2 (lmk (stV gE 4 p8 p7)) fun _v199 eQ=>bd (ldA eQ x5 10) fun iD=>bd (ag 1 nE) fun p9
 => bd (ld1 eQ p9) fun tO=>bd (al BinOp.eql tO (i64 0)) fun v204=>aq v204 (bd (ldA eQ x5 10) fun v205=>LZ 162 [v205] eQ fun v206 gT=>ldA gT x5 10=some iD
 ∧ bd (ck BinOp.eql v206 x0) fun v208=>bd2 (lmk (stV gT 10 x2 iD)) fun _v209 rW=>xo x2 v208 R rW) (bd2 (lmk (stV eQ 10 x2 iD)) fun _v211 aS=>xo x2 (LV.bool false) R aS))
theorem HN (x0 x2 x4 x5 x6:LV) {R:LV.RT} {st:aa} (h:B0 x0 x2 x4 x5 x6 R st):lS x0 x2 x4 x5 x6 R st:=
 pz DX DY h
def xp (x2 x3:LV) (R:LV.RT) (st:aa):Prop:=
 bd (ldA st x2 10) fun v0=>R (LV.tup [v0,x3]) st
theorem DZ (x2 x3:LV) {R:LV.RT} {st:aa} (h:xp x2 x3 R st):xo x2 x3 R st:=
 pz DX DY h
def xq (x2 x3 x6:LV) (R:LV.RT) (st:aa):Prop:=LTg Tryz.prog (kindOf false) [.tmp 4,.tmp 5] (br Tryz.f111 5) [] R (.aY::.aY::x2::x3::.aY::.aY::x6::(LV.jk 48 [])) st
def Mq:List Nat:=(LV.gx 0 55 [2,3,6])
def PS (a0 a1:LV) (R:LV.RT) (st:aa):Prop:=
 bd2 (cu st a0) fun v0 gE=>bd2 (cu gE a1) fun v2 eQ=>bd (ag 0 v2) fun v4=>bd (ld1 eQ v4) fun v5=>bd (al BinOp.neq v5 (i64 7)) fun v6=>aq v6 (R (LV.tup [LV.str [],i64 6]) eQ) (xq v0 v2 (i64 0) R eQ)
theorem Q5 (a0 a1:LV) {R:LV.RT} {st:aa} (h:PS a0 a1 R st):LZ 111 [a0,a1] st R:=
 cz Mq [] [.tmp 4,.tmp 5] Tryz.func111 h
def B1 (x2 x3 x6:LV) (R:LV.RT) (st:aa):Prop:=
 bd (ag 5 x3) fun v0=>bd (ld1 st v0) fun v1=>bd (bB v1) fun v2=>bd (al BinOp.lss x6 v2) fun v3=>aq v3
 (bd (ldA st x2 2) fun v4=>bd (ag 6 x3) fun v5=>bd (ld1 st v5) fun v6=>bd (bn 1 v6 x6) fun v7=>bd (ld1 st v7) fun v8=>LZ 40 [v4,v8] st fun v9 eQ=>bd (al BinOp.lss v9 (i64 0)) fun iD=>aq iD (bd (ag 6 x3) fun iF=>bd (ld1 eQ iF) fun iN=>bd (bn 1 iN x6) fun iS=>bd (ld1 eQ iS) fun mK=>R (LV.tup [mK,i64 7]) eQ)
 (bd (ag 1 x2) fun nE=>bd (ld1 eQ nE) fun oF=>bd (bn 10 oF v9) fun oR=>bd (ag 2 oR) fun rW=>bd (ldA eQ rW 4) fun aS=>bd (ag 5 x3) fun aT=>bd (ld1 eQ aT) fun bY=>bd (bn 7 bY x6) fun dO=>bd (ldA eQ dO 7) fun lE=>LZ 134 [aS,lE] eQ fun gT gE=>bd (ai gT 0) fun _=>bd (ai gT 1) fun lT=>aq lT
 (bd (ag 6 x3) fun p7=>bd (ld1 gE p7) fun p8=>bd (bn 1 p8 x6) fun p9=>bd (ld1 gE p9) fun tO=>R (LV.tup [tO,i64 6]) gE)
 (bd (al BinOp.add x6 (i64 1)) fun v33=>xq x2 x3 v33 R gE)))
 (R (LV.tup [LV.str [],i64 0]) st)
theorem HO (x2 x3 x6:LV) {R:LV.RT} {st:aa} (h:B1 x2 x3 x6 R st):xq x2 x3 x6 R st:=
 pz Mq [] h
def nQ (x0 x3 x4 x5:LV) (R:LV.RT) (st:aa):Prop:=LTg Tryz.prog (kindOf false) [.tmp 2] (br Tryz.f160 5) [] R (x0::.aY::.aY::x3::x4::x5::(LV.jk 26 [])) st
def Mr:List Nat:=(LV.gx 1 31 [3,4,5])
def Q6 (a0:LV) (R:LV.RT) (st:aa):Prop:=
 nQ a0 LV.nils (i64 0) (i64 0) R st
theorem c160 (a0:LV) {R:LV.RT} {st:aa} (h:Q6 a0 R st):LZ 160 [a0] st R:=
 cz Mr [] [.tmp 2] Tryz.func160 h
def xr (x0 x3 x4 x5:LV) (R:LV.RT) (st:aa):Prop:=
 bd (cm x0) fun v0=>bd (al BinOp.leq x5 v0) fun v1=>aq v1
 (bd (cm x0) fun v2=>bd (al BinOp.eql x5 v2) fun v3=>aq v3
 (bd (ob3 (some x4) (some x5) none fun l h m=>dm x0 l h m) fun v4=>bd2 (cq st 1 (aB (fun i=>some (i*1,1)) (List.replicate 1 [LV.str []]).flatten [(0,v4)])) fun v5 gT=>bd2 (bo gT 1 16 Md.rw x3 v5) fun v7 iD=>bd (al BinOp.add x5 (i64 1)) fun v9=>bd (al BinOp.add x5 (i64 1)) fun iF=>nQ x0 v7 v9 iF R iD)
 (bd (dJ x0 x5) fun iN=>bd (al BinOp.eql iN (LV.int IntKind.u8 32)) fun iS=>aq iS
 (bd (ob3 (some x4) (some x5) none fun l h m=>dm x0 l h m) fun mK=>bd2 (cq st 1 (aB (fun i=>some (i*1,1)) (List.replicate 1 [LV.str []]).flatten [(0,mK)])) fun nE eQ=>bd2 (bo eQ 1 16 Md.rw x3 nE) fun oF gE=>bd (al BinOp.add x5 (i64 1)) fun oR=>bd (al BinOp.add x5 (i64 1)) fun rW=>nQ x0 oF oR rW R gE)
 (bd (al BinOp.add x5 (i64 1)) fun aS=>nQ x0 x3 x4 aS R st)))
 (R x3 st)
theorem B2 (x0 x3 x4 x5:LV) {R:LV.RT} {st:aa} (h:xr x0 x3 x4 x5 R st):nQ x0 x3 x4 x5 R st:=
 pz Mr [] h
def PT (a0:LV) (R:LV.RT) (st:aa):Prop:=
 bd2 (cu st a0) fun v0 eQ=>bd (ag 0 v0) fun v2=>bd (ld1 eQ v2) fun v3=>bd (ck BinOp.add (LV.str [97,116,116,114,32]) v3) fun v4=>bd (ck BinOp.add v4 (LV.str [32])) fun v5=>bd (ag 1 v0) fun v6=>bd (ld1 eQ v6) fun v7=>bd (ck BinOp.add v5 v7) fun v8=>bd (ag 6 v0) fun v9=>bd (ld1 eQ v9) fun nE=>aq nE
 (bd (ck BinOp.add v8 (LV.str [32,109,117,115,116])) fun gE=>bd (ag 7 v0) fun oF=>bd (ld1 eQ oF) fun oR=>aq oR
 (bd (ck BinOp.add gE (LV.str [32,111,119,110])) fun gT=>bd (ag 8 v0) fun rW=>bd (ld1 eQ rW) fun aS=>aq aS
 (bd (ck BinOp.add gT (LV.str [32,104,105,100,101])) fun iF=>bd (ag 9 v0) fun aT=>bd (ld1 eQ aT) fun bY=>aq bY (bd (ck BinOp.add iF (LV.str [32,110,101,119])) fun dO=>R dO eQ) (R iF eQ))
 (bd (ag 9 v0) fun lE=>bd (ld1 eQ lE) fun lT=>aq lT (bd (ck BinOp.add gT (LV.str [32,110,101,119])) fun p7=>R p7 eQ) (R gT eQ)))
 (bd (ag 8 v0) fun p8=>bd (ld1 eQ p8) fun p9=>aq p9
 (bd (ck BinOp.add gE (LV.str [32,104,105,100,101])) fun iN=>bd (ag 9 v0) fun tO=>bd (ld1 eQ tO) fun v28=>aq v28 (bd (ck BinOp.add iN (LV.str [32,110,101,119])) fun v29=>R v29 eQ) (R iN eQ))
 (bd (ag 9 v0) fun v30=>bd (ld1 eQ v30) fun v31=>aq v31 (bd (ck BinOp.add gE (LV.str [32,110,101,119])) fun v32=>R v32 eQ) (R gE eQ))))
 (bd (ag 7 v0) fun v33=>bd (ld1 eQ v33) fun v34=>aq v34
 (bd (ck BinOp.add v8 (LV.str [32,111,119,110])) fun iD=>bd (ag 8 v0) fun v36=>bd (ld1 eQ v36) fun v37=>aq v37
 (bd (ck BinOp.add iD (LV.str [32,104,105,100,101])) fun iS=>bd (ag 9 v0) fun v39=>bd (ld1 eQ v39) fun v40=>aq v40 (bd (ck BinOp.add iS (LV.str [32,110,101,119])) fun v41=>R v41 eQ) (R iS eQ))
 (bd (ag 9 v0) fun v42=>bd (ld1 eQ v42) fun v43=>aq v43 (bd (ck BinOp.add iD (LV.str [32,110,101,119])) fun v44=>R v44 eQ) (R iD eQ)))
 (bd (ag 8 v0) fun v45=>bd (ld1 eQ v45) fun v46=>aq v46
 (bd (ck BinOp.add v8 (LV.str [32,104,105,100,101])) fun mK=>bd (ag 9 v0) fun v48=>bd (ld1 eQ v48) fun v49=>aq v49 (bd (ck BinOp.add mK (LV.str [32,110,101,119])) fun v50=>R v50 eQ) (R mK eQ))
 (bd (ag 9 v0) fun v51=>bd (ld1 eQ v51) fun v52=>aq v52 (bd (ck BinOp.add v8 (LV.str [32,110,101,119])) fun v53=>R v53 eQ) (R v8 eQ))))
theorem c162 (a0:LV) {R:LV.RT} {st:aa} (h:PT a0 R st):LZ 162 [a0] st R:=
 cz [] [] [.tmp 2] Tryz.func162 h
def lU (x0 x3:LV) (R:LV.RT) (st:aa):Prop:=LTg Tryz.prog (kindOf false) [.tmp 2] (br Tryz.f104 7) [] R (x0::.aY::.aY::x3::(LV.jk 25 [])) st
def Ms:List Nat:=(LV.gx 1 28 [3])
def PU (a0:LV) (R:LV.RT) (st:aa):Prop:=
 bd (al BinOp.lss a0 (i64 0)) fun v0=>aq v0
 (bd (al BinOp.eql a0 (i64 (-9223372036854775808))) fun v1=>aq v1 (R (LV.str [45,57,50,50,51,51,55,50,48,51,54,56,53,52,55,55,53,56,48,56]) st)
 (bd (lun UnOp.neg a0) fun v2=>LZ 104 [v2] st fun v3 eQ=>bd (ck BinOp.add (LV.str [45]) v3) fun v5=>R v5 eQ))
 (lU a0 (LV.str []) R st)
theorem Q7 (a0:LV) {R:LV.RT} {st:aa} (h:PU a0 R st):LZ 104 [a0] st R:=
 cz Ms [] [.tmp 2] Tryz.func104 h
def B4 (x0 x3:LV) (R:LV.RT) (st:aa):Prop:=
 bd (ck BinOp.eql x3 (LV.str [])) fun v0=>aq v0
 (bd (al BinOp.rem x0 (i64 10)) fun v1=>bd (al BinOp.add (i64 48) v1) fun v2=>bd (gR IntKind.u8 v2) fun v3=>bd2 (cq st 1 (aB (fun i=>some (i*1,1)) (List.replicate 1 [LV.int IntKind.u8 0]).flatten [(0,v3)])) fun v4 gE=>bd (fD gE v4) fun v6=>bd (ck BinOp.add v6 x3) fun v7=>bd (al BinOp.quo x0 (i64 10)) fun v8=>lU v8 v7 R gE)
 (bd (al BinOp.gtr x0 (i64 0)) fun v9=>aq v9
 (bd (al BinOp.rem x0 (i64 10)) fun gT=>bd (al BinOp.add (i64 48) gT) fun iD=>bd (gR IntKind.u8 iD) fun iF=>bd2 (cq st 1 (aB (fun i=>some (i*1,1)) (List.replicate 1 [LV.int IntKind.u8 0]).flatten [(0,iF)])) fun iN eQ=>bd (fD eQ iN) fun iS=>bd (ck BinOp.add iS x3) fun mK=>bd (al BinOp.quo x0 (i64 10)) fun nE=>lU nE mK R eQ)
 (R x3 st))
theorem HP (x0 x3:LV) {R:LV.RT} {st:aa} (h:B4 x0 x3 R st):lU x0 x3 R st:=
 pz Ms [] h
def w26 (a0:LV) (R:LV.RT) (st:aa):Prop:=
 nw st [i64 0,LV.nils] fun v0 nE=>bd (cm a0) fun v2=>bd (al BinOp.gtr v2 (i64 600)) fun v3=>aq v3
 (bd (bh (aB (aF [(0,1),(1,1)]) [i64 0,LV.nils] [])) fun v4=>bd2 (lmk (stV nE 2 v0 v4)) fun _v5 oF=>bd (ldA oF v0 2) fun v7=>R (LV.tup [LV.nilp,v7,i64 1]) oF)
 (LZ 35 [a0] nE fun v8 oR=>bd (ai v8 0) fun rW=>bd (ai v8 1) fun _=>bd (ai v8 2) fun aS=>nw oR [i64 0,LV.nils] fun iF iN=>bd2 (lmk (stV iN 2 iF rW)) fun _ iS=>LZ 21 [a0] iS fun mK eQ=>bd (ai mK 0) fun aT=>bd (ai mK 1) fun _=>bd (ai mK 2) fun bY=>bd (al BinOp.neq aS (i64 0)) fun dO=>aq dO (bd (ldA eQ iF 2) fun lE=>bd2 (lmk (stV eQ 2 v0 lE)) fun _ gE=>bd (ldA gE v0 2) fun lT=>R (LV.tup [LV.nilp,lT,i64 1]) gE)
 (bd (al BinOp.neq bY (i64 0)) fun p7=>aq p7
 (bd (ldA eQ iF 2) fun p8=>bd2 (lmk (stV eQ 2 v0 p8)) fun _ gT=>bd (ldA gT v0 2) fun p9=>R (LV.tup [LV.nilp,p9,i64 1]) gT)
 (bd (ldA eQ iF 2) fun tO=>bd2 (lmk (stV eQ 2 v0 tO)) fun _ iD=>bd (ldA iD v0 2) fun v35=>R (LV.tup [aT,v35,i64 0]) iD)))
theorem c26 (a0:LV) {R:LV.RT} {st:aa} (h:w26 a0 R st):LZ 26 [a0] st R:=
 cz [] [] [.tmp 2,.cell 3 52,.tmp 4] Tryz.func26 h
end Go.Proofs.YtknegckgmklnhaaGreatDoor
