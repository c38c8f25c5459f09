/- Parts of the proof. -/
import Derived.Test.YtknegckgmklnhaaGreatDoorVbW
namespace Go.Proofs.YtknegckgmklnhaaGreatDoor
open Go Go.CP
set_option maxRecDepth 100000
def u9 (x6 x7 x28 x29 x30:LV) (R:LV.RT) (st:aa):Prop:=LTg Tryz.prog (kindOf false) [.tmp 4,.tmp 5] (aW Tryz.f20 10) [] R (LV.jk 6 (x6::x7::(LV.jk 20 (x28::x29::x30::(LV.jk 23 []))))) st
def M6:List Nat:=(LV.gx 0 54 [6,7,28,29,30])
def w20 (a0 a1:LV) (R:LV.RT) (st:aa):Prop:=
 bd (ah BinOp.lss a0 (i64 0)) fun v0=>ak v0 (R (LV.tup [LV.nilp,i64 2]) st)
 (bd (ah BinOp.gtr a0 (i64 1000)) fun v1=>ak v1 (R (LV.tup [LV.nilp,i64 2]) st)
 (bd (bg a1) fun v2=>bd (ah BinOp.gtr v2 (i64 16)) fun v3=>ak v3 (R (LV.tup [LV.nilp,i64 3]) st)
 (LZ 78 [a1] st fun v4 gE=>Ex gE fun v6 gT=>bd (aP (ao (aA [(0,1),(1,1),(2,1)]) [i64 0,LV.nils,LV.nilm] [(0,a0),(1,v4),(2,v6)])) fun v8=>bd2 (ca gT v8) fun v9 eQ=>bd (bg a1) fun iD=>u9 v9 (LV.str []) a1 iD (i64 0) R eQ)))
theorem c20 (a0 a1:LV) {R:LV.RT} {st:aa} (h:w20 a0 a1 R st):LZ 20 [a0,a1] st R:=
 cz M6 [] [.tmp 4,.tmp 5] Tryz.func20 h
def zX (x6 x7 x28 x29 x30:LV) (R:LV.RT) (st:aa):Prop:=
 bd (ah BinOp.lss x30 x29) fun v0=>ak v0
 (bd (aK 6 x28 x30) fun v1=>bd (ldA st v1 6) fun v2=>nw st [LV.str [],LV.nilp,LV.bool false,LV.bool false,LV.bool false,LV.bool false] fun v3 mK=>bd2 (lmk (stV mK 6 v3 v2)) fun _ iN=>bd (ldA iN v3 6) fun v7=>LZ 79 [v7,x7] iN fun v8 eQ=>bd (ah BinOp.neq v8 (i64 0)) fun nE=>ak nE (R (LV.tup [LV.nilp,v8]) eQ)
 (bd (al x6) fun oF=>bd (ad 2 oF) fun oR=>bd (ld1 eQ oR) fun iS=>bd (ad 0 v3) fun rW=>bd (ld1 eQ rW) fun aS=>bd (ad 0 v3) fun iD=>bd (ld1 eQ iD) fun iF=>bd2 (qR eQ true (some (i64 0)) iS aS) fun aT gE=>ld1 gE iD=some iF∧
 bd (aj aT 1) fun bY=>bd2 (lmk (gO gE iS bY x30)) fun _ gT=>ld1 gT iD=some iF∧bd (ah BinOp.add x30 (i64 1)) fun dO=>u9 x6 iF x28 x29 dO R gT))
 (R (LV.tup [x6,i64 0]) st)
theorem Ft (x6 x7 x28 x29 x30:LV) {R:LV.RT} {st:aa} (h:zX x6 x7 x28 x29 x30 R st):u9 x6 x7 x28 x29 x30 R st:=
 pz M6 [] h
def w37 (a0:LV) (R:LV.RT) (st:aa):Prop:=
 bd (eqB BinOp.eql (eX true a0 LV.nilp)) fun v0=>ak v0 (R (i64 0) st) (bd (al a0) fun v1=>bd (ad 0 v1) fun v2=>bd (ld1 st v2) fun v3=>R v3 st)
theorem c37 (a0:LV) {R:LV.RT} {st:aa} (h:w37 a0 R st):LZ 37 [a0] st R:=
 cz [] [] [.tmp 2] Tryz.func37 h
def va (x6 x8 x10 x11 x12:LV) (R:LV.RT) (st:aa):Prop:=LTg Tryz.prog (kindOf false) [.tmp 2,.tmp 3,.tmp 4] (aW Tryz.f21 10) [] R (LV.jk 6 (x6::.aL::x8::.aL::x10::x11::x12::(LV.jk 74 []))) st
def Fu (x6 x8 x10 x11 x12:LV) (R:LV.RT) (st:aa):Prop:=LTg Tryz.prog (kindOf false) [.tmp 2,.tmp 3,.tmp 4] (aW Tryz.f21 18) [] R (LV.jk 6 (x6::.aL::x8::.aL::x10::x11::x12::(LV.jk 74 []))) st
def Lj:List Nat:=(LV.gx 0 87 [6,8,10,11,12])
def Lk:List (Nat × List Nat):=[(16,(LV.gx 0 87 [6,8,10,11,12]))]
def w21 (a0:LV) (R:LV.RT) (st:aa):Prop:=
 bd (bK a0) fun v0=>bd (ah BinOp.gtr v0 (i64 1048576)) fun v1=>ak v1 (R (LV.tup [LV.nilp,i64 0,i64 3]) st)
 (LZ 80 [a0,LV.str [10]] st fun v2 iD=>bd (aj v2 0) fun v4=>bd (aj v2 1) fun v5=>bd (aj v2 2) fun v6=>LZ 81 [v4] iD fun v7 eQ=>bd (aj v7 0) fun v9=>bd (aj v7 1) fun iF=>bd (lun UnOp.not v6) fun iN=>ak iN (R (LV.tup [LV.nilp,i64 1,i64 4]) eQ)
 (bd (lun UnOp.not iF) fun iS=>ak iS (R (LV.tup [LV.nilp,i64 1,i64 4]) eQ)
 (LZ 20 [v9,LV.nils] eQ fun gT gE=>bd (aj gT 0) fun mK=>bd (aj gT 1) fun nE=>va v5 v9 mK nE (i64 2) R gE)))
theorem c21 (a0:LV) {R:LV.RT} {st:aa} (h:w21 a0 R st):LZ 21 [a0] st R:=
 cz Lj Lk [.tmp 2,.tmp 3,.tmp 4] Tryz.func21 h
def zY (x6 x8 x10 x11 x12:LV) (R:LV.RT) (st:aa):Prop:=
 bd (ah BinOp.eql x11 (i64 0)) fun v0=>ak v0
 (bd (bE BinOp.neq x6 (LV.str [])) fun v1=>ak v1
 (LZ 80 [x6,LV.str [10]] st fun v2 oF=>bd (aj v2 0) fun v4=>bd (aj v2 1) fun v5=>bd (aj v2 2) fun v6=>LZ 82 [v4] oF fun v7 oR=>bd (aj v7 0) fun v9=>bd (aj v7 1) fun rW=>nw oR [LV.str [],LV.nilp,LV.bool false,LV.bool false,LV.bool false,LV.bool false] fun iN gT=>bd2 (lmk (stV gT 6 iN v9)) fun _ eQ=>bd (lun UnOp.not v6) fun aS=>ak aS (R (LV.tup [LV.nilp,x12,i64 4]) eQ)
 (bd (lun UnOp.not rW) fun aT=>ak aT (R (LV.tup [LV.nilp,x12,i64 4]) eQ)
 (bd (al x10) fun bY=>bd (ad 1 bY) fun iS=>bd (ld1 eQ iS) fun mK=>bd (ldA eQ iN 6) fun dO=>bd2
 (aN eQ 1
 (ao (fun i=>some (i*6,6)) (List.replicate 1 [LV.str [],LV.nilp,LV.bool false,LV.bool false,LV.bool false,LV.bool false]).flatten [(0,dO)]))
 fun lE gE=>ld1 gE iS=some mK∧
 bd2 (ar gE 6 32 Md.rw mK lE) fun lT iD=>LZ 20 [x8,lT] iD fun nE iF=>bd (aj nE 0) fun p7=>bd (aj nE 1) fun p8=>Fu v5 x8 p7 p8 x12 R iF)))
 (bd (ah BinOp.neq x11 (i64 0)) fun p9=>ak p9 (R (LV.tup [LV.nilp,i64 1,x11]) st) (R (LV.tup [x10,i64 0,i64 0]) st)))
 (bd (ah BinOp.neq x11 (i64 0)) fun tO=>ak tO (R (LV.tup [LV.nilp,i64 1,x11]) st) (R (LV.tup [x10,i64 0,i64 0]) st))
theorem Fv (x6 x8 x10 x11 x12:LV) {R:LV.RT} {st:aa} (h:zY x6 x8 x10 x11 x12 R st):va x6 x8 x10 x11 x12 R st:=
 pz Lj Lk h
def zZ (x6 x8 x10 x11 x12:LV) (R:LV.RT) (st:aa):Prop:=
 bd (ah BinOp.neq x11 (i64 0)) fun v0=>ak v0 (R (LV.tup [LV.nilp,x12,x11]) st) (bd (ah BinOp.add x12 (i64 1)) fun v1=>va x6 x8 x10 x11 v1 R st)
theorem Fw (x6 x8 x10 x11 x12:LV) {R:LV.RT} {st:aa} (h:zZ x6 x8 x10 x11 x12 R st):Fu x6 x8 x10 x11 x12 R st:=
 pz Lj Lk h
def w39 (a0 a1:LV) (R:LV.RT) (st:aa):Prop:=
 nw st [LV.str [],LV.nilp,LV.bool false,LV.bool false,LV.bool false,LV.bool false] fun v0 eQ=>bd (eqB BinOp.eql (eX true a0 LV.nilp)) fun v2=>ak v2
 (bd (aP (ao (aA [(0,1),(1,1),(2,1),(3,1),(4,1),(5,1)]) [LV.str [],LV.nilp,LV.bool false,LV.bool false,LV.bool false,LV.bool false] [])) fun v3=>bd2 (lmk (stV eQ 6 v0 v3)) fun _ iD=>bd (ldA iD v0 6) fun v6=>R (LV.tup [v6,LV.bool false]) iD)
 (bd (al a0) fun v7=>bd (ad 2 v7) fun v8=>bd (ld1 eQ v8) fun v9=>bd (sO eQ true (some (i64 0)) v9 a1 true) fun iF=>bd (aj iF 0) fun iN=>bd (aj iF 1) fun iS=>bd (lun UnOp.not iS) fun mK=>ak mK
 (bd (aP (ao (aA [(0,1),(1,1),(2,1),(3,1),(4,1),(5,1)]) [LV.str [],LV.nilp,LV.bool false,LV.bool false,LV.bool false,LV.bool false] [])) fun nE=>bd2 (lmk (stV eQ 6 v0 nE)) fun _ gE=>bd (ldA gE v0 6) fun oF=>R (LV.tup [oF,LV.bool false]) gE)
 (bd (al a0) fun oR=>bd (ad 1 oR) fun rW=>bd (ld1 eQ rW) fun aS=>bd (aK 6 aS iN) fun aT=>bd (ldA eQ aT 6) fun bY=>bd2 (lmk (stV eQ 6 v0 bY)) fun _ gT=>bd (ldA gT v0 6) fun dO=>R (LV.tup [dO,LV.bool true]) gT))
theorem c39 (a0 a1:LV) {R:LV.RT} {st:aa} (h:w39 a0 a1 R st):LZ 39 [a0,a1] st R:=
 cz [] [] [.cell 4 37,.tmp 5] Tryz.func39 h
def w79 (a0 a1:LV) (R:LV.RT) (st:aa):Prop:=
 bd2 (ca st a0) fun v0 gE=>bd (ad 0 v0) fun v2=>bd (ld1 gE v2) fun v3=>LZ 142 [v3] gE fun v4 eQ=>bd (lun UnOp.not v4) fun v6=>ak v6 (R (i64 7) eQ)
 (bd (ad 0 v0) fun v7=>bd (ld1 eQ v7) fun v8=>bd (bE BinOp.eql v8 a1) fun v9=>ak v9 (R (i64 9) eQ)
 (bd (ad 0 v0) fun gT=>bd (ld1 eQ gT) fun iD=>bd (bE BinOp.lss iD a1) fun iF=>ak iF (R (i64 4) eQ)
 (bd (ad 1 v0) fun iN=>bd (ld1 eQ iN) fun iS=>bd (eqB BinOp.eql (eX true iS LV.nilp)) fun mK=>ak mK (R (i64 6) eQ)
 (bd (ad 2 v0) fun nE=>bd (ld1 eQ nE) fun oF=>ak oF (bd (ad 3 v0) fun oR=>bd (ld1 eQ oR) fun rW=>ak rW (R (i64 1) eQ) (R (i64 0) eQ))
 (R (i64 0) eQ)))))
theorem c79 (a0 a1:LV) {R:LV.RT} {st:aa} (h:w79 a0 a1 R st):LZ 79 [a0,a1] st R:=
 cz [] [] [.tmp 4] Tryz.func79 h
def w81 (a0:LV) (R:LV.RT) (st:aa):Prop:=
 LZ 144 [a0,LV.str [118,101,114,115,105,111,110,32]] st fun v0 gT=>bd (aj v0 0) fun v2=>bd (aj v0 1) fun v3=>LZ 145 [v2] gT fun v4 eQ=>bd (aj v4 0) fun v6=>bd (aj v4 1) fun v7=>ak v3
 (bd (eqB BinOp.eql (Ey true (wy Tryz.prog) v7 LV.nili)) fun v8=>ak v8 (LZ 83 [v6] eQ fun v9 gE=>bd (bE BinOp.eql v9 v2) fun iD=>R (LV.tup [v6,iD]) gE) (R (LV.tup [v6,LV.bool false]) eQ))
 (R (LV.tup [v6,LV.bool false]) eQ)
theorem c81 (a0:LV) {R:LV.RT} {st:aa} (h:w81 a0 R st):LZ 81 [a0] st R:=
 cz [] [] [.tmp 2,.tmp 3] Tryz.func81 h
def kf (x0 x2 x7 x8 x37 x38 x39:LV) (R:LV.RT) (st:aa):Prop:=LTg Tryz.prog (kindOf false) [.cell 2 37,.tmp 3] (aW Tryz.f82 8) [] R (x0::.aL::x2::(LV.jk 4 (x7::x8::(LV.jk 28 (x37::x38::x39::(LV.jk 27 [])))))) st
def z6 (x2 x3:LV) (R:LV.RT) (st:aa):Prop:=LTg Tryz.prog (kindOf false) [.cell 2 37,.tmp 3] (aW Tryz.f82 23) [] R (.aL::.aL::x2::x3::(LV.jk 63 [])) st
def Ll:List Nat:=(LV.gx 1 66 [2,7,8,37,38,39])
def Lm:List (Nat × List Nat):=[(19,(LV.gx 0 67 [2,3]))]
def w82 (a0:LV) (R:LV.RT) (st:aa):Prop:=
 nw st [LV.str [],LV.nilp,LV.bool false,LV.bool false,LV.bool false,LV.bool false] fun v0 oF=>LZ 146 [a0,LV.str [32]] oF fun v2 eQ=>bd (bg v2) fun v4=>bd (ah BinOp.lss v4 (i64 3)) fun v5=>ak v5
 (bd (aP (ao (aA [(0,1),(1,1),(2,1),(3,1),(4,1),(5,1)]) [LV.str [],LV.nilp,LV.bool false,LV.bool false,LV.bool false,LV.bool false] [])) fun v6=>bd2 (lmk (stV eQ 6 v0 v6)) fun _v7 iS=>bd (ldA iS v0 6) fun v9=>R (LV.tup [v9,LV.bool false]) iS)
 (bd (aK 1 v2 (i64 0)) fun oR=>bd (ld1 eQ oR) fun rW=>bd (bE BinOp.neq rW (LV.str [97,116,116,114])) fun aS=>ak aS
 (bd (aP (ao (aA [(0,1),(1,1),(2,1),(3,1),(4,1),(5,1)]) [LV.str [],LV.nilp,LV.bool false,LV.bool false,LV.bool false,LV.bool false] [])) fun aT=>bd2 (lmk (stV eQ 6 v0 aT)) fun _ gE=>bd (ldA gE v0 6) fun bY=>R (LV.tup [bY,LV.bool false]) gE)
 (bd (aK 1 v2 (i64 2)) fun dO=>bd (ld1 eQ dO) fun lE=>LZ 18 [lE] eQ fun iF gT=>bd (aj iF 0) fun lT=>bd (aj iF 1) fun _=>bd (aj iF 2) fun p7=>bd (aK 1 v2 (i64 1)) fun p8=>bd (ld1 gT p8) fun p9=>bd
 (aP
 (ao (aA [(0,1),(1,1),(2,1),(3,1),(4,1),(5,1)]) [LV.str [],LV.nilp,LV.bool false,LV.bool false,LV.bool false,LV.bool false]
 [(0,p9),(1,lT)]))
 fun tO=>nw gT [LV.str [],LV.nilp,LV.bool false,LV.bool false,LV.bool false,LV.bool false] fun mK iN=>bd2 (lmk (stV iN 6 mK tO)) fun _ iD=>bd (ob3 (some (i64 3)) none none fun l h m=>aU iD 1 v2 l h m) fun nE=>bd (bg nE) fun v32=>kf a0 v0 p7 mK nE v32 (i64 0) R iD))
theorem c82 (a0:LV) {R:LV.RT} {st:aa} (h:w82 a0 R st):LZ 82 [a0] st R:=
 cz Ll Lm [.cell 2 37,.tmp 3] Tryz.func82 h
def Cc (x0 x2 x7 x8 x37 x38 x39:LV) (R:LV.RT) (st:aa):Prop:=
 bd (ah BinOp.lss x39 x38) fun v0=>ak v0
 (bd (aK 1 x37 x39) fun v1=>bd (ld1 st v1) fun v2=>bd (bE BinOp.eql v2 (LV.str [109,117,115,116])) fun v3=>ak v3 (bd (ad 2 x8) fun v4=>bd2 (lmk (stV st 1 v4 (LV.bool true))) fun _ mK=>bd (ah BinOp.add x39 (i64 1)) fun v7=>kf x0 x2 x7 x8 x37 x38 v7 R mK)
 (bd (bE BinOp.eql v2 (LV.str [111,119,110])) fun v8=>ak v8 (bd (ad 3 x8) fun v9=>bd2 (lmk (stV st 1 v9 (LV.bool true))) fun _ gE=>bd (ah BinOp.add x39 (i64 1)) fun nE=>kf x0 x2 x7 x8 x37 x38 nE R gE)
 (bd (bE BinOp.eql v2 (LV.str [104,105,100,101])) fun oF=>ak oF
 (bd (ad 4 x8) fun oR=>bd2 (lmk (stV st 1 oR (LV.bool true))) fun _ gT=>bd (ah BinOp.add x39 (i64 1)) fun rW=>kf x0 x2 x7 x8 x37 x38 rW R gT)
 (bd (bE BinOp.eql v2 (LV.str [110,101,119])) fun aS=>ak aS
 (bd (ad 5 x8) fun aT=>bd2 (lmk (stV st 1 aT (LV.bool true))) fun _ iD=>bd (ah BinOp.add x39 (i64 1)) fun bY=>kf x0 x2 x7 x8 x37 x38 bY R iD)
 (bd (ah BinOp.add x39 (i64 1)) fun dO=>kf x0 x2 x7 x8 x37 x38 dO R st)))))
 (bd (ldA st x8 6) fun iF=>bd (ah BinOp.eql x7 (i64 0)) fun lE=>ak lE
 (bd (ldA st x8 6) fun lT=>bd (bE BinOp.add x0 (LV.str [10])) fun p7=>LZ 84 [lT] st fun p8 eQ=>ldA eQ x8 6=some iF∧bd (bE BinOp.eql p8 p7) fun p9=>bd2 (lmk (stV eQ 6 x2 iF)) fun _ iN=>z6 x2 p9 R iN)
 (bd2 (lmk (stV st 6 x2 iF)) fun _ iS=>z6 x2 (LV.bool false) R iS))
theorem Fx (x0 x2 x7 x8 x37 x38 x39:LV) {R:LV.RT} {st:aa} (h:Cc x0 x2 x7 x8 x37 x38 x39 R st):kf x0 x2 x7 x8 x37 x38 x39 R st:=
 pz Ll Lm h
def z8 (x2 x3:LV) (R:LV.RT) (st:aa):Prop:=
 bd (ldA st x2 6) fun v0=>R (LV.tup [v0,x3]) st
theorem Fy (x2 x3:LV) {R:LV.RT} {st:aa} (h:z8 x2 x3 R st):z6 x2 x3 R st:=
 pz Ll Lm h
def JT (x2:LV) (R:LV.RT) (st:aa):Prop:=LTg Tryz.prog (kindOf false) [.tmp 2] (aW Tryz.f84 1) [] R (.aL::.aL::x2::(LV.jk 12 [])) st
def M7:List (Nat × List Nat):=[(1,(LV.gx 0 15 [2]))]
def w84 (a0:LV) (R:LV.RT) (st:aa):Prop:=
 bd2 (ca st a0) fun v0 gT=>bd (ad 0 v0) fun v2=>bd (ld1 gT v2) fun v3=>bd (bE BinOp.add (LV.str [97,116,116,114,32]) v3) fun v4=>bd (bE BinOp.add v4 (LV.str [32])) fun v5=>bd (ad 1 v0) fun v6=>bd (ld1 gT v6) fun v7=>bd (ldA gT v0 6) fun v8=>LZ 38 [v7] gT fun v9 eQ=>ldA eQ v0 6=some v8∧
 ld1 eQ v2=some v3∧
 bd (bE BinOp.add v5 v9) fun iD=>LZ 148 [v8] eQ fun iF gE=>ld1 gE v2=some v3∧bd (bE BinOp.add iD iF) fun iN=>bd (bE BinOp.add iN (LV.str [10])) fun iS=>JT iS R gE
theorem c84 (a0:LV) {R:LV.RT} {st:aa} (h:w84 a0 R st):LZ 84 [a0] st R:=
 cz [] M7 [.tmp 2] Tryz.func84 h
def M8 (x2:LV) (R:LV.RT) (st:aa):Prop:=
 R x2 st
theorem M9 (x2:LV) {R:LV.RT} {st:aa} (h:M8 x2 R st):JT x2 R st:=
 pz [] M7 h
def vb (x3 x14 x15:LV) (R:LV.RT) (st:aa):Prop:=LTg Tryz.prog (kindOf false) [.tmp 2] (aW Tryz.f148 4) [] R (LV.jk 3 (x3::(LV.jk 10 (x14::x15::(LV.jk 11 []))))) st
def JU:List Nat:=(LV.gx 0 27 [3,14,15])
def Ob (a0:LV) (R:LV.RT) (st:aa):Prop:=
 bd2 (ca st a0) fun v0 eQ=>bd (ad 2 v0) fun v2=>bd (ld1 eQ v2) fun v3=>bd (ad 3 v0) fun v4=>bd (ld1 eQ v4) fun v5=>bd (ad 4 v0) fun v6=>bd (ld1 eQ v6) fun v7=>bd (ad 5 v0) fun v8=>bd (ld1 eQ v8) fun v9=>bd (aP (ao (fun i=>some (i*1,1)) [LV.bool false,LV.bool false,LV.bool false,LV.bool false] [(0,v3),(1,v5),(2,v7),(3,v9)])) fun gE=>vb (LV.str []) gE (i64 0) R eQ
theorem c148 (a0:LV) {R:LV.RT} {st:aa} (h:Ob a0 R st):LZ 148 [a0] st R:=
 cz JU [] [.tmp 2] Tryz.func148 h
def Ln (x3 x14 x15:LV) (R:LV.RT) (st:aa):Prop:=
 bd (ah BinOp.lss x15 (i64 4)) fun v0=>ak v0
 (bd (qT 4 (fun x j=>uA (j*1) x) x14 x15) fun v1=>ak v1
 (bd
 (aP
 (ao (fun i=>some (i*1,1)) [LV.str [],LV.str [],LV.str [],LV.str []]
 [(0,LV.str [32,109,117,115,116]),(1,LV.str [32,111,119,110]),(2,LV.str [32,104,105,100,101]),(3,LV.str [32,110,101,119])]))
 fun v2=>bd (qT 4 (fun x j=>uA (j*1) x) v2 x15) fun v3=>bd (bE BinOp.add x3 v3) fun v4=>bd (ah BinOp.add x15 (i64 1)) fun v5=>vb v4 x14 v5 R st)
 (bd (ah BinOp.add x15 (i64 1)) fun v6=>vb x3 x14 v6 R st))
 (R x3 st)
theorem rU (x3 x14 x15:LV) {R:LV.RT} {st:aa} (h:Ln x3 x14 x15 R st):vb x3 x14 x15 R st:=
 pz JU [] h
def w78 (a0:LV) (R:LV.RT) (st:aa):Prop:=
 bd (eqB BinOp.eql (uq a0 LV.nils)) fun v0=>ak v0 (R LV.nils st)
 (bd2 (aN st 0 (ao (fun i=>some (i*6,6)) (List.replicate 0 [LV.str [],LV.nilp,LV.bool false,LV.bool false,LV.bool false,LV.bool false]).flatten [])) fun v1 eQ=>bd2 (ar eQ 6 32 Md.rw v1 a0) fun v3 gE=>R v3 gE)
theorem c78 (a0:LV) {R:LV.RT} {st:aa} (h:w78 a0 R st):LZ 78 [a0] st R:=
 cz [] [] [.tmp 2] Tryz.func78 h
def xL (x3 x25 x26 x27:LV) (R:LV.RT) (st:aa):Prop:=LTg Tryz.prog (kindOf false) [.tmp 4,.tmp 5] (aW Tryz.f41 6) [] R (LV.jk 3 (x3::(LV.jk 21 (x25::x26::x27::(LV.jk 20 []))))) st
def Na:List Nat:=(LV.gx 0 48 [3,25,26,27])
def w41 (a0 a1:LV) (R:LV.RT) (st:aa):Prop:=
 bd2 (ca st a1) fun v0 gE=>bd (ldA gE v0 1) fun v2=>LZ 110 [a0,v2] gE fun v3 eQ=>bd (aj v3 0) fun v5=>bd (aj v3 1) fun v6=>bd (ah BinOp.neq v6 (i64 0)) fun v7=>ak v7 (R (LV.tup [v5,v6]) eQ) (bd (al a0) fun v8=>bd (ad 1 v8) fun v9=>bd (ld1 eQ v9) fun gT=>bd (bg gT) fun iD=>xL v0 gT iD (i64 0) R eQ)
theorem c41 (a0 a1:LV) {R:LV.RT} {st:aa} (h:w41 a0 a1 R st):LZ 41 [a0,a1] st R:=
 cz Na [] [.tmp 4,.tmp 5] Tryz.func41 h
def Fz (x3 x25 x26 x27:LV) (R:LV.RT) (st:aa):Prop:=
 bd (ah BinOp.lss x27 x26) fun v0=>ak v0
 (bd (aK 6 x25 x27) fun v1=>bd (ldA st v1 6) fun v2=>nw st [LV.str [],LV.nilp,LV.bool false,LV.bool false,LV.bool false,LV.bool false] fun v3 mK=>bd2 (lmk (stV mK 6 v3 v2)) fun _ gT=>bd (ldA gT x3 1) fun v7=>bd (ad 0 v3) fun v8=>bd (ld1 gT v8) fun v9=>LZ 50 [v7,v9] gT fun iN iD=>bd (aj iN 0) fun nE=>bd (aj iN 1) fun _=>nw iD [LV.nili] fun iS iF=>bd2 (lmk (stV iF 1 iS nE)) fun _ eQ=>bd (ad 2 v3) fun oF=>bd (ld1 eQ oF) fun oR=>ak oR
 (bd (ldA eQ iS 1) fun rW=>LZ 46 [rW] eQ fun aS gE=>bd (ah BinOp.eql aS (i64 0)) fun aT=>ak aT (bd (ad 0 v3) fun bY=>bd (ld1 gE bY) fun dO=>R (LV.tup [dO,i64 8]) gE)
 (bd (ah BinOp.add x27 (i64 1)) fun lE=>xL x3 x25 x26 lE R gE))
 (bd (ah BinOp.add x27 (i64 1)) fun lT=>xL x3 x25 x26 lT R eQ))
 (R (LV.tup [LV.str [],i64 0]) st)
theorem JV (x3 x25 x26 x27:LV) {R:LV.RT} {st:aa} (h:Fz x3 x25 x26 x27 R st):xL x3 x25 x26 x27 R st:=
 pz Na [] h
def Cd (x3 x4 x8 x9 x27 x28 x29:LV) (R:LV.RT) (st:aa):Prop:=LTg Tryz.prog (kindOf false) [.cell 4 57,.tmp 5] (aW Tryz.f42 8) [] R (LV.jk 3 (x3::x4::(LV.jk 3 (x8::x9::(LV.jk 17 (x27::x28::x29::(LV.jk 33 []))))))) st
def eL (x3 x4 x8 x9 x27 x28 x29:LV) (R:LV.RT) (st:aa):Prop:=LTg Tryz.prog (kindOf false) [.cell 4 57,.tmp 5] (aW Tryz.f42 15) [] R (LV.jk 3 (x3::x4::(LV.jk 3 (x8::x9::(LV.jk 17 (x27::x28::x29::(LV.jk 33 []))))))) st
def Lo:List Nat:=(LV.gx 0 63 [3,4,8,9,27,28,29])
def Lp:List (Nat × List Nat):=[(12,(LV.gx 0 63 [3,4,8,9,27,28,29]))]
def w42 (a0 a1:LV) (R:LV.RT) (st:aa):Prop:=
 bd2 (ca st a1) fun v0 iN=>nw iN [LV.nili] fun v2 iD=>bd (ldA iD v0 1) fun v4=>LZ 41 [a0,v4] iD fun v5 gE=>bd (aj v5 0) fun _=>bd (aj v5 1) fun v8=>bd (ah BinOp.neq v8 (i64 0)) fun v9=>ak v9 (LZ 66 [] gE fun iS gT=>bd2 (lmk (stV gT 1 v2 iS)) fun _ eQ=>bd (ldA eQ v2 1) fun mK=>R (LV.tup [mK,v8]) eQ)
 (bd (al a0) fun nE=>bd (ad 1 nE) fun oF=>bd (ld1 gE oF) fun iF=>bd (bg iF) fun oR=>Cd v0 v2 LV.nils LV.nils iF oR (i64 0) R gE)
theorem c42 (a0 a1:LV) {R:LV.RT} {st:aa} (h:w42 a0 a1 R st):LZ 42 [a0,a1] st R:=
 cz Lo Lp [.cell 4 57,.tmp 5] Tryz.func42 h
def FA (x3 x4 x8 x9 x27 x28 x29:LV) (R:LV.RT) (st:aa):Prop:=
 bd (ah BinOp.lss x29 x28) fun v0=>ak v0
 (bd (aK 6 x27 x29) fun v1=>bd (ldA st v1 6) fun v2=>nw st [LV.str [],LV.nilp,LV.bool false,LV.bool false,LV.bool false,LV.bool false] fun v3 st4=>bd2 (lmk (stV st4 6 v3 v2)) fun _v5 st6=>bd (ldA st6 x3 1) fun v7=>bd (ad 0 v3) fun v8=>bd (ld1 st6 v8) fun v9=>LZ 50 [v7,v9] st6 fun v10 st11=>bd (aj v10 0) fun v12=>bd (aj v10 1) fun _v13=>nw st11 [LV.nili] fun eQ st15=>bd2 (lmk (stV st15 1 eQ v12)) fun _v16 gE=>bd (ad 3 v3) fun v18=>bd (ld1 gE v18) fun v19=>ak v19
 (bd (ldA gE eQ 1) fun v20=>LZ 46 [v20] gE fun v21 gT=>bd (ah BinOp.eql v21 (i64 0)) fun v23=>ak v23
 (LZ 69 [] gT fun v24 st25=>bd2 (lmk (stV st25 1 eQ v24)) fun _v26 iD=>bd (ad 0 v3) fun v28=>bd (ld1 iD v28) fun aS=>bd (ldA iD eQ 1) fun iF=>(bd2 (aN iD 1 (ao (fun i=>some (i*1,1)) (List.replicate 1 [LV.nili]).flatten [(0,iF)])) fun v31 aT=>ld1 aT v28=some aS∧
 bd2 (aN aT 1 (ao (fun i=>some (i*1,1)) (List.replicate 1 [LV.str []]).flatten [(0,aS)])) fun v33 bY=>ldA bY eQ 1=some iF∧
 bd2 (ar bY 1 16 Md.rw x8 v33) fun v35 dO=>ldA dO eQ 1=some iF∧bd2 (ar dO 1 16 Md.rw x9 v31) fun v37 st38=>eL x3 x4 v35 v37 x27 x28 x29 R st38)∧
 bd2 (aN iD 1 (ao (fun i=>some (i*1,1)) (List.replicate 1 [LV.str []]).flatten [(0,aS)])) fun v39 oF=>ldA oF eQ 1=some iF∧
 (bd2 (aN oF 1 (ao (fun i=>some (i*1,1)) (List.replicate 1 [LV.nili]).flatten [(0,iF)])) fun v41 lE=>ld1 lE v28=some aS∧
 bd2 (ar lE 1 16 Md.rw x8 v39) fun v43 lT=>ldA lT eQ 1=some iF∧bd2 (ar lT 1 16 Md.rw x9 v41) fun v45 st46=>eL x3 x4 v43 v45 x27 x28 x29 R st46)∧
 bd2 (ar oF 1 16 Md.rw x8 v39) fun v47 p7=>ldA p7 eQ 1=some iF∧
 bd2 (aN p7 1 (ao (fun i=>some (i*1,1)) (List.replicate 1 [LV.nili]).flatten [(0,iF)])) fun v49 p8=>ld1 p8 v28=some aS∧bd2 (ar p8 1 16 Md.rw x9 v49) fun v51 st52=>eL x3 x4 v47 v51 x27 x28 x29 R st52)
 (bd (ad 0 v3) fun v53=>bd (ld1 gT v53) fun p9=>bd (ldA gT eQ 1) fun iN=>(bd2 (aN gT 1 (ao (fun i=>some (i*1,1)) (List.replicate 1 [LV.nili]).flatten [(0,iN)])) fun v56 tO=>ld1 tO v53=some p9∧
 bd2 (aN tO 1 (ao (fun i=>some (i*1,1)) (List.replicate 1 [LV.str []]).flatten [(0,p9)])) fun v58 st59=>ldA st59 eQ 1=some iN∧
 bd2 (ar st59 1 16 Md.rw x8 v58) fun v60 st61=>ldA st61 eQ 1=some iN∧bd2 (ar st61 1 16 Md.rw x9 v56) fun v62 st63=>eL x3 x4 v60 v62 x27 x28 x29 R st63)∧
 bd2 (aN gT 1 (ao (fun i=>some (i*1,1)) (List.replicate 1 [LV.str []]).flatten [(0,p9)])) fun v64 oR=>ldA oR eQ 1=some iN∧
 (bd2 (aN oR 1 (ao (fun i=>some (i*1,1)) (List.replicate 1 [LV.nili]).flatten [(0,iN)])) fun v66 st67=>ld1 st67 v53=some p9∧
 bd2 (ar st67 1 16 Md.rw x8 v64) fun v68 st69=>ldA st69 eQ 1=some iN∧bd2 (ar st69 1 16 Md.rw x9 v66) fun v70 st71=>eL x3 x4 v68 v70 x27 x28 x29 R st71)∧
 bd2 (ar oR 1 16 Md.rw x8 v64) fun v72 st73=>ldA st73 eQ 1=some iN∧
 bd2 (aN st73 1 (ao (fun i=>some (i*1,1)) (List.replicate 1 [LV.nili]).flatten [(0,iN)])) fun v74 st75=>ld1 st75 v53=some p9∧bd2 (ar st75 1 16 Md.rw x9 v74) fun v76 st77=>eL x3 x4 v72 v76 x27 x28 x29 R st77))
 (bd (ad 0 v3) fun v78=>bd (ld1 gE v78) fun v79=>bd (ldA gE eQ 1) fun iS=>(bd2 (aN gE 1 (ao (fun i=>some (i*1,1)) (List.replicate 1 [LV.nili]).flatten [(0,iS)])) fun v81 st82=>ld1 st82 v78=some v79∧
 bd2 (aN st82 1 (ao (fun i=>some (i*1,1)) (List.replicate 1 [LV.str []]).flatten [(0,v79)])) fun v83 st84=>ldA st84 eQ 1=some iS∧
 bd2 (ar st84 1 16 Md.rw x8 v83) fun v85 st86=>ldA st86 eQ 1=some iS∧bd2 (ar st86 1 16 Md.rw x9 v81) fun v87 st88=>eL x3 x4 v85 v87 x27 x28 x29 R st88)∧
 bd2 (aN gE 1 (ao (fun i=>some (i*1,1)) (List.replicate 1 [LV.str []]).flatten [(0,v79)])) fun v89 rW=>ldA rW eQ 1=some iS∧
 (bd2 (aN rW 1 (ao (fun i=>some (i*1,1)) (List.replicate 1 [LV.nili]).flatten [(0,iS)])) fun v91 st92=>ld1 st92 v78=some v79∧
 bd2 (ar st92 1 16 Md.rw x8 v89) fun v93 st94=>ldA st94 eQ 1=some iS∧bd2 (ar st94 1 16 Md.rw x9 v91) fun v95 st96=>eL x3 x4 v93 v95 x27 x28 x29 R st96)∧
 bd2 (ar rW 1 16 Md.rw x8 v89) fun v97 st98=>ldA st98 eQ 1=some iS∧
 bd2 (aN st98 1 (ao (fun i=>some (i*1,1)) (List.replicate 1 [LV.nili]).flatten [(0,iS)])) fun v99 mK=>ld1 mK v78=some v79∧bd2 (ar mK 1 16 Md.rw x9 v99) fun v101 st102=>eL x3 x4 v97 v101 x27 x28 x29 R st102))
 (LZ 72 [x8,x9] st fun v103 st104=>bd (aj v103 0) fun v105=>bd (aj v103 1) fun v106=>bd2 (lmk (stV st104 1 x4 v105)) fun _v107 nE=>bd (ldA nE x4 1) fun v109=>R (LV.tup [v109,v106]) nE)
theorem JW (x3 x4 x8 x9 x27 x28 x29:LV) {R:LV.RT} {st:aa} (h:FA x3 x4 x8 x9 x27 x28 x29 R st):Cd x3 x4 x8 x9 x27 x28 x29 R st:=
 pz Lo Lp h
def FB (x3 x4 x8 x9 x27 x28 x29:LV) (R:LV.RT) (st:aa):Prop:=
 bd (ah BinOp.add x29 (i64 1)) fun v0=>Cd x3 x4 x8 x9 x27 x28 v0 R st
theorem Lq (x3 x4 x8 x9 x27 x28 x29:LV) {R:LV.RT} {st:aa} (h:FB x3 x4 x8 x9 x27 x28 x29 R st):eL x3 x4 x8 x9 x27 x28 x29 R st:=
 pz Lo Lp h
def Ce (x3 x25 x26 x27:LV) (R:LV.RT) (st:aa):Prop:=LTg Tryz.prog (kindOf false) [.tmp 4,.tmp 5] (aW Tryz.f43 6) [] R (LV.jk 3 (x3::(LV.jk 21 (x25::x26::x27::(LV.jk 15 []))))) st
def Nb:List Nat:=(LV.gx 0 43 [3,25,26,27])
def w43 (a0 a1:LV) (R:LV.RT) (st:aa):Prop:=
 bd2 (ca st a1) fun v0 gE=>bd (ldA gE v0 1) fun v2=>LZ 110 [a0,v2] gE fun v3 eQ=>bd (aj v3 0) fun v5=>bd (aj v3 1) fun v6=>bd (ah BinOp.neq v6 (i64 0)) fun v7=>ak v7 (R (LV.tup [v5,v6]) eQ) (bd (al a0) fun v8=>bd (ad 1 v8) fun v9=>bd (ld1 eQ v9) fun gT=>bd (bg gT) fun iD=>Ce v0 gT iD (i64 0) R eQ)
theorem c43 (a0 a1:LV) {R:LV.RT} {st:aa} (h:w43 a0 a1 R st):LZ 43 [a0,a1] st R:=
 cz Nb [] [.tmp 4,.tmp 5] Tryz.func43 h
def FC (x3 x25 x26 x27:LV) (R:LV.RT) (st:aa):Prop:=
 bd (ah BinOp.lss x27 x26) fun v0=>ak v0
 (bd (aK 6 x25 x27) fun v1=>bd (ldA st v1 6) fun v2=>nw st [LV.str [],LV.nilp,LV.bool false,LV.bool false,LV.bool false,LV.bool false] fun v3 iN=>bd2 (lmk (stV iN 6 v3 v2)) fun _ gE=>bd (ldA gE x3 1) fun v7=>bd (ad 0 v3) fun v8=>bd (ld1 gE v8) fun v9=>LZ 50 [v7,v9] gE fun iF gT=>bd (aj iF 0) fun iS=>bd (aj iF 1) fun mK=>nw gT [LV.nili] fun nE iD=>bd2 (lmk (stV iD 1 nE iS)) fun _ eQ=>bd (lun UnOp.not mK) fun oF=>ak oF (bd (ad 0 v3) fun oR=>bd (ld1 eQ oR) fun rW=>R (LV.tup [rW,i64 8]) eQ)
 (bd (ah BinOp.add x27 (i64 1)) fun aS=>Ce x3 x25 x26 aS R eQ))
 (R (LV.tup [LV.str [],i64 0]) st)
theorem JX (x3 x25 x26 x27:LV) {R:LV.RT} {st:aa} (h:FC x3 x25 x26 x27 R st):Ce x3 x25 x26 x27 R st:=
 pz Nb [] h
def vc (x0 x6 x21 x22 x23:LV) (R:LV.RT) (st:aa):Prop:=LTg Tryz.prog (kindOf false) [.tmp 4,.tmp 5] (aW Tryz.f110 9) [] R (x0::(LV.jk 5 (x6::(LV.jk 14 (x21::x22::x23::(LV.jk 25 [])))))) st
def JY:List Nat:=(LV.gx 1 48 [6,21,22,23])
def Nc (a0 a1:LV) (R:LV.RT) (st:aa):Prop:=
 bd2 (ca st a1) fun v0 eQ=>bd (eqB BinOp.eql (eX true a0 LV.nilp)) fun v2=>ak v2 (R (LV.tup [LV.str [],i64 11]) eQ)
 (bd (ldA eQ v0 1) fun v3=>LZ 46 [v3] eQ fun v4 gE=>bd (ah BinOp.neq v4 (i64 7)) fun v6=>ak v6 (R (LV.tup [LV.str [],i64 6]) gE)
 (bd (ldA gE v0 1) fun v7=>LZ 101 [v7] gE fun v8 iD=>bd (ldA iD v0 1) fun iN=>LZ 49 [iN] iD fun iF gT=>bd (bg iF) fun iS=>vc a0 v8 iF iS (i64 0) R gT))
theorem Oc (a0 a1:LV) {R:LV.RT} {st:aa} (h:Nc a0 a1 R st):LZ 110 [a0,a1] st R:=
 cz JY [] [.tmp 4,.tmp 5] Tryz.func110 h
def Aa (x0 x6 x21 x22 x23:LV) (R:LV.RT) (st:aa):Prop:=
 bd (ah BinOp.lss x23 x22) fun v0=>ak v0
 (bd (aK 1 x21 x23) fun v1=>bd (ld1 st v1) fun v2=>LZ 39 [x0,v2] st fun v3 gT=>bd (aj v3 0) fun v5=>bd (aj v3 1) fun v6=>nw gT [LV.str [],LV.nilp,LV.bool false,LV.bool false,LV.bool false,LV.bool false] fun v7 iD=>bd2 (lmk (stV iD 6 v7 v5)) fun _ eQ=>bd (lun UnOp.not v6) fun iF=>ak iF (R (LV.tup [v2,i64 7]) eQ)
 (bd (ad 1 v7) fun iN=>bd (ld1 eQ iN) fun iS=>bd (aK 1 x6 x23) fun mK=>bd (ldA eQ mK 1) fun nE=>LZ 53 [iS,nE] eQ fun oF gE=>bd (lun UnOp.not oF) fun oR=>ak oR (R (LV.tup [v2,i64 6]) gE) (bd (ah BinOp.add x23 (i64 1)) fun rW=>vc x0 x6 x21 x22 rW R gE)))
 (R (LV.tup [LV.str [],i64 0]) st)
theorem FD (x0 x6 x21 x22 x23:LV) {R:LV.RT} {st:aa} (h:Aa x0 x6 x21 x22 x23 R st):vc x0 x6 x21 x22 x23 R st:=
 pz JY [] h
def dR (x0 x2 x5 x6 x7 x8 x9 x10 x11:LV) (R:LV.RT) (st:aa):Prop:=LTg Tryz.prog (kindOf false) [.cell 2 52,.tmp 3,.tmp 4] (aW Tryz.f35 5) [] R (x0::.aL::x2::.aL::.aL::x5::x6::x7::x8::x9::x10::x11::(LV.jk 129 [])) st
def o7 (x0 x2 x5 x6 x7 x8 x9 x10 x11:LV) (R:LV.RT) (st:aa):Prop:=LTg Tryz.prog (kindOf false) [.cell 2 52,.tmp 3,.tmp 4] (aW Tryz.f35 16) [] R (x0::.aL::x2::.aL::.aL::x5::x6::x7::x8::x9::x10::x11::(LV.jk 129 [])) st
def Lr:List Nat:=(LV.gx 1 140 [2,5,6,7,8,9,10,11])
def w35 (a0:LV) (R:LV.RT) (st:aa):Prop:=
 nw st [i64 0,LV.nils] fun v0 eQ=>nw eQ [i64 0,LV.nils] fun v2 gE=>dR a0 v0 v2 (i64 0) (i64 0) (i64 0) (LV.tup []) (LV.tup []) (LV.tup []) R gE
theorem c35 (a0:LV) {R:LV.RT} {st:aa} (h:w35 a0 R st):LZ 35 [a0] st R:=
 cz Lr [] [.cell 2 52,.tmp 3,.tmp 4] Tryz.func35 h
def xM (x0 x2 x5 x6 x7 x8 x9 x10 x11:LV) (R:LV.RT) (st:aa):Prop:=
 bd (bK x0) fun v0=>bd (ah BinOp.lss x8 v0) fun v1=>ak v1
 (bd (cA x0 x8) fun v2=>bd (ah BinOp.neq v2 (LV.int IntKind.u8 10)) fun v3=>ak v3 (bd (ah BinOp.add x8 (i64 1)) fun v4=>dR x0 x2 x5 x6 x7 v4 x9 x10 x11 R st)
 (bd (ob3 (some x6) (some x8) none fun l h m=>cI x0 l h m) fun v5=>bd (ah BinOp.add x8 (i64 1)) fun v6=>bd (ah BinOp.add x7 (i64 1)) fun v7=>bd (ah BinOp.eql v7 (i64 1)) fun v8=>ak v8 (o7 x0 x2 x5 v6 v7 x8 v5 (i64 (-1)) (i64 0) R st)
 (LZ 106 [v5] st fun v9 st10=>bd (aj v9 0) fun v11=>bd (aj v9 1) fun v12=>nw st10 [LV.str [],LV.str [],i64 0,LV.nils,LV.nils,LV.nils,LV.bool false,LV.bool false,LV.bool false,LV.bool false] fun gE st14=>bd2 (lmk (stV st14 10 gE v11)) fun _v15 gT=>bd (lun UnOp.not v12) fun v17=>ak v17
 (bd (aP (ao (aA [(0,1),(1,1)]) [i64 0,LV.nils] [])) fun v18=>bd2 (lmk (stV gT 2 x2 v18)) fun _v19 rW=>bd (ldA rW x2 2) fun v21=>R (LV.tup [v21,v7,i64 4]) rW)
 (bd (ad 1 x5) fun v22=>bd (ld1 gT v22) fun v23=>bd (bg v23) fun oR=>bd (ah BinOp.eql oR (i64 16)) fun v25=>ak v25
 (bd (aP (ao (aA [(0,1),(1,1)]) [i64 0,LV.nils] [])) fun v26=>bd2 (lmk (stV gT 2 x2 v26)) fun _v27 aS=>bd (ldA aS x2 2) fun v29=>R (LV.tup [v29,v7,i64 3]) aS)
 (bd (ad 0 gE) fun v30=>bd (ld1 gT v30) fun v31=>LZ 19 [v31] gT fun v32 eQ=>bd (lun UnOp.not v32) fun v34=>ak v34
 (bd (aP (ao (aA [(0,1),(1,1)]) [i64 0,LV.nils] [])) fun v35=>bd2 (lmk (stV eQ 2 x2 v35)) fun _v36 aT=>bd (ldA aT x2 2) fun v38=>R (LV.tup [v38,v7,i64 7]) aT)
 (bd (ah BinOp.gtr oR (i64 0)) fun v39=>ak v39
 (bd (ad 0 gE) fun v40=>bd (ld1 eQ v40) fun v41=>bd (ad 1 x5) fun v42=>bd (ld1 eQ v42) fun v43=>bd (ah BinOp.sub oR (i64 1)) fun v44=>bd (aK 10 v43 v44) fun v45=>bd (ad 0 v45) fun v46=>bd (ld1 eQ v46) fun v47=>bd (bE BinOp.eql v41 v47) fun v48=>ak v48
 (bd (aP (ao (aA [(0,1),(1,1)]) [i64 0,LV.nils] [])) fun v49=>bd2 (lmk (stV eQ 2 x2 v49)) fun _v50 bY=>bd (ldA bY x2 2) fun v52=>R (LV.tup [v52,v7,i64 9]) bY)
 (bd (ah BinOp.gtr oR (i64 0)) fun v53=>ak v53
 (bd (ad 0 gE) fun v54=>bd (ld1 eQ v54) fun v55=>bd (ad 1 x5) fun v56=>bd (ld1 eQ v56) fun v57=>bd (ah BinOp.sub oR (i64 1)) fun v58=>bd (aK 10 v57 v58) fun v59=>bd (ad 0 v59) fun v60=>bd (ld1 eQ v60) fun v61=>bd (bE BinOp.lss v55 v61) fun v62=>ak v62
 (bd (aP (ao (aA [(0,1),(1,1)]) [i64 0,LV.nils] [])) fun v63=>bd2 (lmk (stV eQ 2 x2 v63)) fun _v64 dO=>bd (ldA dO x2 2) fun v66=>R (LV.tup [v66,v7,i64 4]) dO)
 (bd (ad 6 gE) fun v67=>bd (ld1 eQ v67) fun v68=>ak v68
 (bd (ad 7 gE) fun v69=>bd (ld1 eQ v69) fun v70=>ak v70
 (bd (aP (ao (aA [(0,1),(1,1)]) [i64 0,LV.nils] []))
 fun v71=>bd2 (lmk (stV eQ 2 x2 v71)) fun _v72 lE=>bd (ldA lE x2 2) fun v74=>R (LV.tup [v74,v7,i64 1]) lE)
 (bd (ad 1 x5) fun v75=>bd (ld1 eQ v75) fun v76=>bd (ldA eQ gE 10) fun v77=>bd2
 (aN eQ 1
 (ao (fun i=>some (i*10,10))
 (List.replicate 1
 [LV.str [],LV.str [],i64 0,LV.nils,LV.nils,
 LV.nils,LV.bool false,LV.bool false,LV.bool false,
 LV.bool false]).flatten
 [(0,v77)]))
 fun v78 st79=>bd2 (ar st79 10 120 Md.rw v76 v78) fun v80 st81=>bd (ad 1 x5) fun v82=>bd2 (lmk (stV st81 1 v82 v80)) fun _v83 st84=>bd (ah BinOp.add x8 (i64 1)) fun v85=>dR x0 x2 x5 v6 v7 v85 v5 x10 x11 R st84))
 (bd (ad 1 x5) fun v86=>bd (ld1 eQ v86) fun v87=>bd (ldA eQ gE 10) fun v88=>bd2
 (aN eQ 1
 (ao (fun i=>some (i*10,10))
 (List.replicate 1
 [LV.str [],LV.str [],i64 0,LV.nils,LV.nils,LV.nils,
 LV.bool false,LV.bool false,LV.bool false,LV.bool false]).flatten
 [(0,v88)]))
 fun v89 st90=>bd2 (ar st90 10 120 Md.rw v87 v89) fun v91 st92=>bd (ad 1 x5) fun v93=>bd2 (lmk (stV st92 1 v93 v91)) fun _v94 st95=>bd (ah BinOp.add x8 (i64 1)) fun v96=>dR x0 x2 x5 v6 v7 v96 v5 x10 x11 R st95)))
 (bd (ad 6 gE) fun v97=>bd (ld1 eQ v97) fun v98=>ak v98
 (bd (ad 7 gE) fun v99=>bd (ld1 eQ v99) fun v100=>ak v100
 (bd (aP (ao (aA [(0,1),(1,1)]) [i64 0,LV.nils] [])) fun v101=>bd2 (lmk (stV eQ 2 x2 v101)) fun _v102 iD=>bd (ldA iD x2 2) fun v104=>R (LV.tup [v104,v7,i64 1]) iD)
 (bd (ad 1 x5) fun v105=>bd (ld1 eQ v105) fun v106=>bd (ldA eQ gE 10) fun v107=>bd2
 (aN eQ 1
 (ao (fun i=>some (i*10,10))
 (List.replicate 1
 [LV.str [],LV.str [],i64 0,LV.nils,LV.nils,LV.nils,LV.bool false,
 LV.bool false,LV.bool false,LV.bool false]).flatten
 [(0,v107)]))
 fun v108 lT=>bd2 (ar lT 10 120 Md.rw v106 v108) fun v110 p7=>bd (ad 1 x5) fun v112=>bd2 (lmk (stV p7 1 v112 v110)) fun _v113 p8=>bd (ah BinOp.add x8 (i64 1)) fun v115=>dR x0 x2 x5 v6 v7 v115 v5 x10 x11 R p8))
 (bd (ad 1 x5) fun v116=>bd (ld1 eQ v116) fun v117=>bd (ldA eQ gE 10) fun v118=>bd2
 (aN eQ 1
 (ao (fun i=>some (i*10,10))
 (List.replicate 1
 [LV.str [],LV.str [],i64 0,LV.nils,LV.nils,LV.nils,LV.bool false,
 LV.bool false,LV.bool false,LV.bool false]).flatten
 [(0,v118)]))
 fun v119 p9=>bd2 (ar p9 10 120 Md.rw v117 v119) fun v121 tO=>bd (ad 1 x5) fun v123=>bd2 (lmk (stV tO 1 v123 v121)) fun _v124 st125=>bd (ah BinOp.add x8 (i64 1)) fun v126=>dR x0 x2 x5 v6 v7 v126 v5 x10 x11 R st125))))
 (bd (ah BinOp.gtr oR (i64 0)) fun v127=>ak v127
 (bd (ad 0 gE) fun v128=>bd (ld1 eQ v128) fun v129=>bd (ad 1 x5) fun v130=>bd (ld1 eQ v130) fun v131=>bd (ah BinOp.sub oR (i64 1)) fun v132=>bd (aK 10 v131 v132) fun v133=>bd (ad 0 v133) fun v134=>bd (ld1 eQ v134) fun v135=>bd (bE BinOp.lss v129 v135) fun v136=>ak v136
 (bd (aP (ao (aA [(0,1),(1,1)]) [i64 0,LV.nils] [])) fun v137=>bd2 (lmk (stV eQ 2 x2 v137)) fun _v138 iF=>bd (ldA iF x2 2) fun v140=>R (LV.tup [v140,v7,i64 4]) iF)
 (bd (ad 6 gE) fun v141=>bd (ld1 eQ v141) fun v142=>ak v142
 (bd (ad 7 gE) fun v143=>bd (ld1 eQ v143) fun v144=>ak v144
 (bd (aP (ao (aA [(0,1),(1,1)]) [i64 0,LV.nils] [])) fun v145=>bd2 (lmk (stV eQ 2 x2 v145)) fun _v146 iN=>bd (ldA iN x2 2) fun v148=>R (LV.tup [v148,v7,i64 1]) iN)
 (bd (ad 1 x5) fun v149=>bd (ld1 eQ v149) fun v150=>bd (ldA eQ gE 10) fun v151=>bd2
 (aN eQ 1
 (ao (fun i=>some (i*10,10))
 (List.replicate 1
 [LV.str [],LV.str [],i64 0,LV.nils,LV.nils,LV.nils,LV.bool false,
 LV.bool false,LV.bool false,LV.bool false]).flatten
 [(0,v151)]))
 fun v152 st153=>bd2 (ar st153 10 120 Md.rw v150 v152) fun v154 st155=>bd (ad 1 x5) fun v156=>bd2 (lmk (stV st155 1 v156 v154)) fun _v157 st158=>bd (ah BinOp.add x8 (i64 1)) fun v159=>dR x0 x2 x5 v6 v7 v159 v5 x10 x11 R st158))
 (bd (ad 1 x5) fun v160=>bd (ld1 eQ v160) fun v161=>bd (ldA eQ gE 10) fun v162=>bd2
 (aN eQ 1
 (ao (fun i=>some (i*10,10))
 (List.replicate 1
 [LV.str [],LV.str [],i64 0,LV.nils,LV.nils,LV.nils,LV.bool false,
 LV.bool false,LV.bool false,LV.bool false]).flatten
 [(0,v162)]))
 fun v163 st164=>bd2 (ar st164 10 120 Md.rw v161 v163) fun v165 st166=>bd (ad 1 x5) fun v167=>bd2 (lmk (stV st166 1 v167 v165)) fun _v168 st169=>bd (ah BinOp.add x8 (i64 1)) fun v170=>dR x0 x2 x5 v6 v7 v170 v5 x10 x11 R st169)))
 (bd (ad 6 gE) fun v171=>bd (ld1 eQ v171) fun v172=>ak v172
 (bd (ad 7 gE) fun v173=>bd (ld1 eQ v173) fun v174=>ak v174
 (bd (aP (ao (aA [(0,1),(1,1)]) [i64 0,LV.nils] [])) fun v175=>bd2 (lmk (stV eQ 2 x2 v175)) fun _v176 iS=>bd (ldA iS x2 2) fun v178=>R (LV.tup [v178,v7,i64 1]) iS)
 (bd (ad 1 x5) fun v179=>bd (ld1 eQ v179) fun v180=>bd (ldA eQ gE 10) fun v181=>bd2
 (aN eQ 1
 (ao (fun i=>some (i*10,10))
 (List.replicate 1
 [LV.str [],LV.str [],i64 0,LV.nils,LV.nils,LV.nils,LV.bool false,LV.bool false,
 LV.bool false,LV.bool false]).flatten
 [(0,v181)]))
 fun v182 st183=>bd2 (ar st183 10 120 Md.rw v180 v182) fun v184 st185=>bd (ad 1 x5) fun v186=>bd2 (lmk (stV st185 1 v186 v184)) fun _v187 st188=>bd (ah BinOp.add x8 (i64 1)) fun v189=>dR x0 x2 x5 v6 v7 v189 v5 x10 x11 R st188))
 (bd (ad 1 x5) fun v190=>bd (ld1 eQ v190) fun v191=>bd (ldA eQ gE 10) fun v192=>bd2
 (aN eQ 1
 (ao (fun i=>some (i*10,10))
 (List.replicate 1
 [LV.str [],LV.str [],i64 0,LV.nils,LV.nils,LV.nils,LV.bool false,LV.bool false,
 LV.bool false,LV.bool false]).flatten
 [(0,v192)]))
 fun v193 st194=>bd2 (ar st194 10 120 Md.rw v191 v193) fun v195 st196=>bd (ad 1 x5) fun v197=>bd2 (lmk (stV st196 1 v197 v195)) fun _v198 st199=>bd (ah BinOp.add x8 (i64 1)) fun v200=>dR x0 x2 x5 v6 v7 v200 v5 x10 x11 R st199)))))))))
 (bd (bK x0) fun v201=>bd (ah BinOp.lss x6 v201) fun v202=>ak v202
 (bd (aP (ao (aA [(0,1),(1,1)]) [i64 0,LV.nils] [])) fun v203=>bd (ah BinOp.add x7 (i64 1)) fun v204=>bd2 (lmk (stV st 2 x2 v203)) fun _v205 mK=>bd (ldA mK x2 2) fun v207=>R (LV.tup [v207,v204,i64 4]) mK)
 (bd (ah BinOp.eql x7 (i64 0)) fun v208=>ak v208
 (bd (aP (ao (aA [(0,1),(1,1)]) [i64 0,LV.nils] [])) fun v209=>bd (ah BinOp.add x7 (i64 1)) fun v210=>bd2 (lmk (stV st 2 x2 v209)) fun _v211 nE=>bd (ldA nE x2 2) fun v213=>R (LV.tup [v213,v210,i64 4]) nE)
 (bd (ldA st x5 2) fun v214=>bd2 (lmk (stV st 2 x2 v214)) fun _v215 oF=>bd (ldA oF x2 2) fun v217=>R (LV.tup [v217,i64 0,i64 0]) oF)))
theorem Cf (x0 x2 x5 x6 x7 x8 x9 x10 x11:LV) {R:LV.RT} {st:aa} (h:xM x0 x2 x5 x6 x7 x8 x9 x10 x11 R st):dR x0 x2 x5 x6 x7 x8 x9 x10 x11 R st:=
 pz Lr [] h
def vd (x0 x2 x5 x6 x7 x8 x9 x10 x11:LV) (R:LV.RT) (st:aa):Prop:=
 bd (ah BinOp.leq x11 (i64 1000)) fun v0=>ak v0
 (bd (ah BinOp.lss x10 (i64 0)) fun v1=>ak v1
 (bd (bK x9) fun v2=>bd (ah BinOp.lss v2 (i64 14)) fun v3=>ak v3
 (LZ 104 [x11] st fun v4 oF=>bd (bE BinOp.add (LV.str [118,101,114,115,105,111,110,32]) v4) fun v6=>bd (bE BinOp.eql x9 v6) fun v7=>ak v7 (bd (ah BinOp.add x11 (i64 1)) fun v8=>o7 x0 x2 x5 x6 x7 x8 x9 x11 v8 R oF)
 (bd (ah BinOp.add x11 (i64 1)) fun v9=>o7 x0 x2 x5 x6 x7 x8 x9 x10 v9 R oF))
 (bd (ah BinOp.lss x10 (i64 0)) fun oR=>ak oR
 (bd (aP (ao (aA [(0,1),(1,1)]) [i64 0,LV.nils] [])) fun rW=>LZ 105 [x9] st fun aS iD=>bd2 (lmk (stV iD 2 x2 rW)) fun _ eQ=>bd (ldA eQ x2 2) fun aT=>R (LV.tup [aT,i64 1,aS]) eQ)
 (bd (ad 0 x5) fun bY=>bd2 (lmk (stV st 1 bY x10)) fun _ iF=>bd (ah BinOp.add x8 (i64 1)) fun dO=>dR x0 x2 x5 x6 x7 dO x9 x10 x11 R iF)))
 (bd (ah BinOp.lss x10 (i64 0)) fun lE=>ak lE
 (bd (aP (ao (aA [(0,1),(1,1)]) [i64 0,LV.nils] [])) fun lT=>LZ 105 [x9] st fun p7 iN=>bd2 (lmk (stV iN 2 x2 lT)) fun _ gE=>bd (ldA gE x2 2) fun p8=>R (LV.tup [p8,i64 1,p7]) gE)
 (bd (ad 0 x5) fun p9=>bd2 (lmk (stV st 1 p9 x10)) fun _ iS=>bd (ah BinOp.add x8 (i64 1)) fun tO=>dR x0 x2 x5 x6 x7 tO x9 x10 x11 R iS)))
 (bd (ah BinOp.lss x10 (i64 0)) fun v32=>ak v32
 (bd (aP (ao (aA [(0,1),(1,1)]) [i64 0,LV.nils] [])) fun v33=>LZ 105 [x9] st fun v34 mK=>bd2 (lmk (stV mK 2 x2 v33)) fun _v36 gT=>bd (ldA gT x2 2) fun v38=>R (LV.tup [v38,i64 1,v34]) gT)
 (bd (ad 0 x5) fun v39=>bd2 (lmk (stV st 1 v39 x10)) fun _v40 nE=>bd (ah BinOp.add x8 (i64 1)) fun v42=>dR x0 x2 x5 x6 x7 v42 x9 x10 x11 R nE))
theorem Ab (x0 x2 x5 x6 x7 x8 x9 x10 x11:LV) {R:LV.RT} {st:aa} (h:vd x0 x2 x5 x6 x7 x8 x9 x10 x11 R st):o7 x0 x2 x5 x6 x7 x8 x9 x10 x11 R st:=
 pz Lr [] h
def w19 (a0:LV) (R:LV.RT) (st:aa):Prop:=
 LZ 77 [a0,i64 0] st fun v0 gE=>nw gE [i64 0,i64 0] fun v2 gT=>bd2 (lmk (stV gT 2 v2 v0)) fun _ eQ=>bd (ad 1 v2) fun v6=>bd (ld1 eQ v6) fun v7=>bd (ah BinOp.eql v7 (i64 0)) fun v8=>ak v8 (bd (ad 0 v2) fun v9=>bd (ld1 eQ v9) fun iD=>bd (bK a0) fun iF=>bd (ah BinOp.eql iD iF) fun iN=>R iN eQ) (R (LV.bool false) eQ)
theorem c19 (a0:LV) {R:LV.RT} {st:aa} (h:w19 a0 R st):LZ 19 [a0] st R:=
 cz [] [] [.tmp 2] Tryz.func19 h
def Cg (x1 x2 x5:LV) (R:LV.RT) (st:aa):Prop:=LTg Tryz.prog (kindOf false) [.tmp 4] (aW Tryz.f40 3) [] R (.aL::x1::x2::.aL::.aL::x5::(LV.jk 16 [])) st
def Nd:List Nat:=(LV.gx 0 22 [1,2,5])
def w40 (a0 a1:LV) (R:LV.RT) (st:aa):Prop:=
 bd2 (ca st a0) fun v0 eQ=>Cg a1 v0 (i64 0) R eQ
theorem c40 (a0 a1:LV) {R:LV.RT} {st:aa} (h:w40 a0 a1 R st):LZ 40 [a0,a1] st R:=
 cz Nd [] [.tmp 4] Tryz.func40 h
def FE (x1 x2 x5:LV) (R:LV.RT) (st:aa):Prop:=
 bd (ad 1 x2) fun v0=>bd (ld1 st v0) fun v1=>bd (bg v1) fun v2=>bd (ah BinOp.lss x5 v2) fun v3=>ak v3
 (bd (ad 1 x2) fun v4=>bd (ld1 st v4) fun v5=>bd (aK 10 v5 x5) fun v6=>bd (ad 0 v6) fun v7=>bd (ld1 st v7) fun v8=>bd (bE BinOp.eql v8 x1) fun v9=>ak v9 (R x5 st) (bd (ah BinOp.add x5 (i64 1)) fun eQ=>Cg x1 x2 eQ R st))
 (R (i64 (-1)) st)
theorem JZ (x1 x2 x5:LV) {R:LV.RT} {st:aa} (h:FE x1 x2 x5 R st):Cg x1 x2 x5 R st:=
 pz Nd [] h
def xN (x2 x3 x8:LV) (R:LV.RT) (st:aa):Prop:=LTg Tryz.prog (kindOf false) [.tmp 4,.tmp 5] (aW Tryz.f44 6) [] R (.aL::.aL::x2::x3::(LV.jk 4 (x8::(LV.jk 41 [])))) st
def Nf:List Nat:=(LV.gx 0 50 [2,3,8])
def w44 (a0 a1:LV) (R:LV.RT) (st:aa):Prop:=
 bd2 (ca st a0) fun v0 gT=>bd2 (ca gT a1) fun v2 eQ=>bd (ldA eQ v0 2) fun v4=>bd (ldA eQ v2 7) fun v5=>LZ 111 [v4,v5] eQ fun v6 gE=>bd (aj v6 0) fun v8=>bd (aj v6 1) fun v9=>bd (ah BinOp.neq v9 (i64 0)) fun iD=>ak iD (R (LV.tup [v8,v9]) gE) (xN v0 v2 (i64 0) R gE)
theorem c44 (a0 a1:LV) {R:LV.RT} {st:aa} (h:w44 a0 a1 R st):LZ 44 [a0,a1] st R:=
 cz Nf [] [.tmp 4,.tmp 5] Tryz.func44 h
def FF (x2 x3 x8:LV) (R:LV.RT) (st:aa):Prop:=
 bd (ad 1 x2) fun v0=>bd (ld1 st v0) fun v1=>bd (bg v1) fun v2=>bd (ah BinOp.lss x8 v2) fun v3=>ak v3
 (bd (ad 1 x2) fun v4=>bd (ld1 st v4) fun v5=>bd (aK 10 v5 x8) fun v6=>bd (ad 6 v6) fun v7=>bd (ld1 st v7) fun v8=>ak v8
 (bd (ldA st x3 7) fun v9=>bd (ad 1 x2) fun gE=>bd (ld1 st gE) fun gT=>bd (aK 10 gT x8) fun iD=>bd (ad 0 iD) fun iF=>bd (ld1 st iF) fun iN=>LZ 103 [v9,iN] st fun iS eQ=>bd (uA 0 iS) fun mK=>bd (ah BinOp.eql mK (i64 0)) fun nE=>ak nE
 (bd (ad 1 x2) fun oF=>bd (ld1 eQ oF) fun oR=>bd (aK 10 oR x8) fun rW=>bd (ad 0 rW) fun aS=>bd (ld1 eQ aS) fun aT=>R (LV.tup [aT,i64 8]) eQ)
 (bd (ah BinOp.add x8 (i64 1)) fun bY=>xN x2 x3 bY R eQ))
 (bd (ah BinOp.add x8 (i64 1)) fun dO=>xN x2 x3 dO R st))
 (R (LV.tup [LV.str [],i64 0]) st)
theorem J0 (x2 x3 x8:LV) {R:LV.RT} {st:aa} (h:FF x2 x3 x8 R st):xN x2 x3 x8 R st:=
 pz Nf [] h
def Ch (x2 x3 x8:LV) (R:LV.RT) (st:aa):Prop:=LTg Tryz.prog (kindOf false) [.tmp 4,.tmp 5] (aW Tryz.f45 6) [] R (.aL::.aL::x2::x3::(LV.jk 4 (x8::(LV.jk 32 [])))) st
def Ng:List Nat:=(LV.gx 0 41 [2,3,8])
def w45 (a0 a1:LV) (R:LV.RT) (st:aa):Prop:=
 bd2 (ca st a0) fun v0 gT=>bd2 (ca gT a1) fun v2 eQ=>bd (ldA eQ v0 2) fun v4=>bd (ldA eQ v2 7) fun v5=>LZ 111 [v4,v5] eQ fun v6 gE=>bd (aj v6 0) fun v8=>bd (aj v6 1) fun v9=>bd (ah BinOp.neq v9 (i64 0)) fun iD=>ak iD (R (LV.tup [v8,v9]) gE) (Ch v0 v2 (i64 0) R gE)
theorem c45 (a0 a1:LV) {R:LV.RT} {st:aa} (h:w45 a0 a1 R st):LZ 45 [a0,a1] st R:=
 cz Ng [] [.tmp 4,.tmp 5] Tryz.func45 h
def FG (x2 x3 x8:LV) (R:LV.RT) (st:aa):Prop:=
 bd (ad 1 x2) fun v0=>bd (ld1 st v0) fun v1=>bd (bg v1) fun v2=>bd (ah BinOp.lss x8 v2) fun v3=>ak v3
 (bd (ldA st x3 7) fun v4=>bd (ad 1 x2) fun v5=>bd (ld1 st v5) fun v6=>bd (aK 10 v6 x8) fun v7=>bd (ad 0 v7) fun v8=>bd (ld1 st v8) fun v9=>LZ 112 [v4,v9] st fun gE eQ=>bd (ah BinOp.lss gE (i64 0)) fun gT=>ak gT
 (bd (ad 1 x2) fun iD=>bd (ld1 eQ iD) fun iF=>bd (aK 10 iF x8) fun iN=>bd (ad 0 iN) fun iS=>bd (ld1 eQ iS) fun mK=>R (LV.tup [mK,i64 8]) eQ)
 (bd (ah BinOp.add x8 (i64 1)) fun nE=>Ch x2 x3 nE R eQ))
 (R (LV.tup [LV.str [],i64 0]) st)
theorem J1 (x2 x3 x8:LV) {R:LV.RT} {st:aa} (h:FG x2 x3 x8 R st):Ch x2 x3 x8 R st:=
 pz Ng [] h
def Ci (x2 x3 x4 x5 x6:LV) (R:LV.RT) (st:aa):Prop:=LTg Tryz.prog (kindOf false) [.cell 4 49] (aW Tryz.f47 4) [] R (.aL::.aL::x2::x3::x4::x5::x6::(LV.jk 47 [])) st
def Cj (x2 x3 x4 x5 x6 x7:LV) (R:LV.RT) (st:aa):Prop:=LTg Tryz.prog (kindOf false) [.cell 4 49] (aW Tryz.f47 7) [] R (.aL::.aL::x2::x3::x4::x5::x6::x7::(LV.jk 46 [])) st
def pb (x2 x3 x4 x5 x6 x7:LV) (R:LV.RT) (st:aa):Prop:=LTg Tryz.prog (kindOf false) [.cell 4 49] (aW Tryz.f47 10) [] R (.aL::.aL::x2::x3::x4::x5::x6::x7::(LV.jk 46 [])) st
def Im:List Nat:=(LV.gx 0 54 [2,3,4,5,6])
def Io:List (Nat × List Nat):=[(5,(LV.gx 0 54 [2,3,4,5,6,7])),(8,(LV.gx 0 54 [2,3,4,5,6,7]))]
def w47 (a0 a1:LV) (R:LV.RT) (st:aa):Prop:=
 bd2 (ca st a0) fun v0 gE=>bd2 (ca gE a1) fun v2 gT=>nw gT [i64 0,LV.bool false,i64 0,i64 0,LV.str [],LV.nils,LV.nils] fun v4 iD=>bd
 (aP
 (ao (aA [(0,1),(1,1),(2,1),(3,1),(4,1),(5,1),(6,1)]) [i64 0,LV.bool false,i64 0,i64 0,LV.str [],LV.nils,LV.nils]
 [(0,i64 7)]))
 fun v6=>nw iD [i64 0,LV.bool false,i64 0,i64 0,LV.str [],LV.nils,LV.nils] fun v7 iF=>bd2 (lmk (stV iF 7 v7 v6)) fun _ eQ=>Ci v0 v2 v4 v7 (i64 0) R eQ
theorem c47 (a0 a1:LV) {R:LV.RT} {st:aa} (h:w47 a0 a1 R st):LZ 47 [a0,a1] st R:=
 cz Im Io [.cell 4 49] Tryz.func47 h
def FH (x2 x3 x4 x5 x6:LV) (R:LV.RT) (st:aa):Prop:=
 bd (ad 1 x2) fun v0=>bd (ld1 st v0) fun v1=>bd (bg v1) fun v2=>bd (ah BinOp.lss x6 v2) fun v3=>ak v3
 (bd (ldA st x3 7) fun v4=>bd (ad 1 x2) fun v5=>bd (ld1 st v5) fun v6=>bd (aK 10 v6 x6) fun v7=>bd (ad 0 v7) fun v8=>bd (ld1 st v8) fun v9=>(nw st [i64 0,LV.bool false,i64 0,i64 0,LV.str [],LV.nils,LV.nils] fun mK eQ=>ld1 eQ v8=some v9∧
 ld1 eQ v5=some v6∧
 ldA eQ x3 7=some v4∧LZ 103 [v4,v9] eQ fun oF iD=>bd2 (lmk (stV iD 7 mK oF)) fun _ iF=>Cj x2 x3 x4 x5 x6 mK R iF)∧
 LZ 103 [v4,v9] st fun oR iN=>nw iN [i64 0,LV.bool false,i64 0,i64 0,LV.str [],LV.nils,LV.nils] fun nE gE=>ld1 gE v8=some v9∧ld1 gE v5=some v6∧ldA gE x3 7=some v4∧bd2 (lmk (stV gE 7 nE oR)) fun _ iS=>Cj x2 x3 x4 x5 x6 nE R iS)
 (bd (ldA st x5 7) fun rW=>bd2 (lmk (stV st 7 x4 rW)) fun _ gT=>bd (ldA gT x4 7) fun aS=>R aS gT)
theorem J2 (x2 x3 x4 x5 x6:LV) {R:LV.RT} {st:aa} (h:FH x2 x3 x4 x5 x6 R st):Ci x2 x3 x4 x5 x6 R st:=
 pz Im Io h
def FI (x2 x3 x4 x5 x6 x7:LV) (R:LV.RT) (st:aa):Prop:=
 bd (ad 1 x2) fun v0=>bd (ld1 st v0) fun v1=>bd (aK 10 v1 x6) fun v2=>bd (ad 7 v2) fun v3=>bd (ld1 st v3) fun v4=>ak v4
 (bd (ad 0 x7) fun v5=>bd (ld1 st v5) fun v6=>bd (ah BinOp.eql v6 (i64 0)) fun v7=>ak v7
 (bd
 (aP
 (ao (aA [(0,1),(1,1),(2,1),(3,1),(4,1),(5,1),(6,1)])
 [i64 0,LV.bool false,i64 0,i64 0,LV.str [],LV.nils,LV.nils] [(0,i64 1)]))
 fun v8=>bd2 (lmk (stV st 7 x7 v8)) fun _v9 eQ=>bd (ad 6 x5) fun oR=>bd (ld1 eQ oR) fun rW=>bd (ad 1 x2) fun lE=>bd (ld1 eQ lE) fun lT=>bd (aK 10 lT x6) fun p7=>bd (ad 0 p7) fun p8=>bd (ld1 eQ p8) fun p9=>bd2 (aN eQ 1 (ao (fun i=>some (i*1,1)) (List.replicate 1 [LV.str []]).flatten [(0,p9)])) fun tO gE=>ld1 gE oR=some rW∧
 bd2 (ar gE 1 16 Md.rw rW tO) fun v20 iF=>bd (ad 6 x5) fun v22=>bd2 (lmk (stV iF 1 v22 v20)) fun _v23 iN=>pb x2 x3 x4 x5 x6 x7 R iN)
 (bd (ad 6 x5) fun aS=>bd (ld1 st aS) fun aT=>bd (ad 1 x2) fun v27=>bd (ld1 st v27) fun v28=>bd (aK 10 v28 x6) fun v29=>bd (ad 0 v29) fun v30=>bd (ld1 st v30) fun v31=>bd2 (aN st 1 (ao (fun i=>some (i*1,1)) (List.replicate 1 [LV.str []]).flatten [(0,v31)])) fun v32 gT=>ld1 gT aS=some aT∧
 bd2 (ar gT 1 16 Md.rw aT v32) fun v34 iS=>bd (ad 6 x5) fun v36=>bd2 (lmk (stV iS 1 v36 v34)) fun _v37 mK=>pb x2 x3 x4 x5 x6 x7 R mK))
 (bd (ad 6 x5) fun bY=>bd (ld1 st bY) fun dO=>bd (ad 1 x2) fun v41=>bd (ld1 st v41) fun v42=>bd (aK 10 v42 x6) fun v43=>bd (ad 0 v43) fun v44=>bd (ld1 st v44) fun v45=>bd2 (aN st 1 (ao (fun i=>some (i*1,1)) (List.replicate 1 [LV.str []]).flatten [(0,v45)])) fun v46 iD=>ld1 iD bY=some dO∧
 bd2 (ar iD 1 16 Md.rw dO v46) fun v48 nE=>bd (ad 6 x5) fun v50=>bd2 (lmk (stV nE 1 v50 v48)) fun _v51 oF=>pb x2 x3 x4 x5 x6 x7 R oF)
theorem Nh (x2 x3 x4 x5 x6 x7:LV) {R:LV.RT} {st:aa} (h:FI x2 x3 x4 x5 x6 x7 R st):Cj x2 x3 x4 x5 x6 x7 R st:=
 pz Im Io h
def FJ (x2 x3 x4 x5 x6 x7:LV) (R:LV.RT) (st:aa):Prop:=
 bd (ad 5 x5) fun v0=>bd (ld1 st v0) fun v1=>bd (ldA st x7 7) fun v2=>bd2
 (aN st 1
 (ao (fun i=>some (i*7,7)) (List.replicate 1 [i64 0,LV.bool false,i64 0,i64 0,LV.str [],LV.nils,LV.nils]).flatten [(0,v2)]))
 fun v3 eQ=>bd2 (ar eQ 7 96 Md.rw v1 v3) fun v5 gE=>bd (ad 5 x5) fun v7=>bd2 (lmk (stV gE 1 v7 v5)) fun _ gT=>bd (ah BinOp.add x6 (i64 1)) fun iD=>Ci x2 x3 x4 x5 iD R gT
theorem Ls (x2 x3 x4 x5 x6 x7:LV) {R:LV.RT} {st:aa} (h:FJ x2 x3 x4 x5 x6 x7 R st):pb x2 x3 x4 x5 x6 x7 R st:=
 pz Im Io h
def Ni (a0 a1:LV) (R:LV.RT) (st:aa):Prop:=
 bd2 (ca st a0) fun v0 iF=>nw iF [i64 0,LV.bool false,i64 0,i64 0,LV.str [],LV.nils,LV.nils] fun v2 iD=>bd (ldA iD v0 7) fun v4=>LZ 112 [v4,a1] iD fun v5 gT=>bd (ah BinOp.lss v5 (i64 0)) fun v7=>ak v7
 (bd
 (aP
 (ao (aA [(0,1),(1,1),(2,1),(3,1),(4,1),(5,1),(6,1)]) [i64 0,LV.bool false,i64 0,i64 0,LV.str [],LV.nils,LV.nils]
 []))
 fun v8=>bd2 (lmk (stV gT 7 v2 v8)) fun _ eQ=>bd (ldA eQ v2 7) fun iN=>R iN eQ)
 (bd (ad 5 v0) fun iS=>bd (ld1 gT iS) fun mK=>bd (aK 7 mK v5) fun nE=>bd (ldA gT nE 7) fun oF=>bd2 (lmk (stV gT 7 v2 oF)) fun _ gE=>bd (ldA gE v2 7) fun oR=>R oR gE)
theorem Od (a0 a1:LV) {R:LV.RT} {st:aa} (h:Ni a0 a1 R st):LZ 103 [a0,a1] st R:=
 cz [] [] [.cell 4 49] Tryz.func103 h
def ve (x1 x2 x5:LV) (R:LV.RT) (st:aa):Prop:=LTg Tryz.prog (kindOf false) [.tmp 4] (aW Tryz.f112 3) [] R (.aL::x1::x2::.aL::.aL::x5::(LV.jk 20 [])) st
def J3:List Nat:=(LV.gx 0 26 [1,2,5])
def Nj (a0 a1:LV) (R:LV.RT) (st:aa):Prop:=
 bd2 (ca st a0) fun v0 eQ=>ve a1 v0 (i64 0) R eQ
theorem Oe (a0 a1:LV) {R:LV.RT} {st:aa} (h:Nj a0 a1 R st):LZ 112 [a0,a1] st R:=
 cz J3 [] [.tmp 4] Tryz.func112 h
def vf (x1 x2 x5:LV) (R:LV.RT) (st:aa):Prop:=
 bd (ad 5 x2) fun v0=>bd (ld1 st v0) fun v1=>bd (bg v1) fun v2=>bd (ah BinOp.lss x5 v2) fun v3=>ak v3
 (bd (ad 0 x2) fun v4=>bd (ld1 st v4) fun v5=>bd (ah BinOp.eql v5 (i64 7)) fun v6=>ak v6
 (bd (ad 6 x2) fun v7=>bd (ld1 st v7) fun v8=>bd (aK 1 v8 x5) fun v9=>bd (ld1 st v9) fun eQ=>bd (bE BinOp.eql eQ x1) fun gE=>ak gE (R x5 st) (bd (ah BinOp.add x5 (i64 1)) fun gT=>ve x1 x2 gT R st))
 (R (i64 (-1)) st))
 (R (i64 (-1)) st)
theorem Ad (x1 x2 x5:LV) {R:LV.RT} {st:aa} (h:vf x1 x2 x5 R st):ve x1 x2 x5 R st:=
 pz J3 [] h
def gN (x3 x5:LV) (R:LV.RT) (st:aa):Prop:=LTg Tryz.prog (kindOf false) [.tmp 2] (aW Tryz.f105 12) [] R (LV.jk 3 (x3::.aL::x5::(LV.jk 59 []))) st
def J4:List Nat:=(LV.gx 0 65 [3,5])
def Nk (a0:LV) (R:LV.RT) (st:aa):Prop:=
 bd (bK a0) fun v0=>bd (ah BinOp.leq v0 (i64 8)) fun v1=>ak v1 (R (i64 4) st)
 (bd (ob3 none (some (i64 8)) none fun l h m=>cI a0 l h m) fun v2=>bd (bE BinOp.neq v2 (LV.str [118,101,114,115,105,111,110,32])) fun v3=>ak v3 (R (i64 4) st)
 (bd (ob3 (some (i64 8)) none none fun l h m=>cI a0 l h m) fun v4=>bd (cA v4 (i64 0)) fun v5=>bd (ah BinOp.eql v5 (LV.int IntKind.u8 45)) fun v6=>ak v6
 (bd (ob3 (some (i64 1)) none none fun l h m=>cI v4 l h m) fun v7=>bd (bK v7) fun v8=>bd (ah BinOp.eql v8 (i64 0)) fun v9=>ak v9 (R (i64 4) st)
 (bd (bK v7) fun eQ=>bd (ah BinOp.gtr eQ (i64 19)) fun gE=>ak gE (R (i64 4) st)
 (bd (bK v7) fun gT=>bd (ah BinOp.eql gT (i64 19)) fun iD=>ak iD
 (bd (bE BinOp.gtr v7 (LV.str [57,50,50,51,51,55,50,48,51,54,56,53,52,55,55,53,56,48,56])) fun iF=>ak iF (R (i64 4) st)
 (bd (cA v7 (i64 0)) fun iN=>bd (ah BinOp.lss iN (LV.int IntKind.u8 49)) fun iS=>ak iS (R (i64 4) st)
 (bd (cA v7 (i64 0)) fun mK=>bd (ah BinOp.gtr mK (LV.int IntKind.u8 57)) fun nE=>ak nE (R (i64 4) st) (gN v7 (i64 0) R st))))
 (bd (cA v7 (i64 0)) fun oF=>bd (ah BinOp.lss oF (LV.int IntKind.u8 49)) fun oR=>ak oR (R (i64 4) st)
 (bd (cA v7 (i64 0)) fun rW=>bd (ah BinOp.gtr rW (LV.int IntKind.u8 57)) fun aS=>ak aS (R (i64 4) st) (gN v7 (i64 0) R st))))))
 (bd (bK v4) fun aT=>bd (ah BinOp.eql aT (i64 0)) fun bY=>ak bY (R (i64 4) st)
 (bd (bK v4) fun dO=>bd (ah BinOp.gtr dO (i64 19)) fun lE=>ak lE (R (i64 4) st)
 (bd (bK v4) fun lT=>bd (ah BinOp.eql lT (i64 19)) fun p7=>ak p7
 (bd (bE BinOp.gtr v4 (LV.str [57,50,50,51,51,55,50,48,51,54,56,53,52,55,55,53,56,48,55])) fun p8=>ak p8 (R (i64 4) st)
 (bd (cA v4 (i64 0)) fun p9=>bd (ah BinOp.lss p9 (LV.int IntKind.u8 49)) fun tO=>ak tO (R (i64 4) st)
 (bd (cA v4 (i64 0)) fun v32=>bd (ah BinOp.gtr v32 (LV.int IntKind.u8 57)) fun v33=>ak v33 (R (i64 4) st) (gN v4 (i64 0) R st))))
 (bd (cA v4 (i64 0)) fun v34=>bd (ah BinOp.lss v34 (LV.int IntKind.u8 49)) fun v35=>ak v35 (R (i64 4) st)
 (bd (cA v4 (i64 0)) fun v36=>bd (ah BinOp.gtr v36 (LV.int IntKind.u8 57)) fun v37=>ak v37 (R (i64 4) st) (gN v4 (i64 0) R st))))))))
theorem c105 (a0:LV) {R:LV.RT} {st:aa} (h:Nk a0 R st):LZ 105 [a0] st R:=
 cz J4 [] [.tmp 2] Tryz.func105 h
def vg (x3 x5:LV) (R:LV.RT) (st:aa):Prop:=
 bd (bK x3) fun v0=>bd (ah BinOp.lss x5 v0) fun v1=>ak v1
 (bd (cA x3 x5) fun v2=>bd (ah BinOp.lss v2 (LV.int IntKind.u8 48)) fun v3=>ak v3 (R (i64 4) st)
 (bd (cA x3 x5) fun v4=>bd (ah BinOp.gtr v4 (LV.int IntKind.u8 57)) fun v5=>ak v5 (R (i64 4) st) (bd (ah BinOp.add x5 (i64 1)) fun v6=>gN x3 v6 R st)))
 (R (i64 2) st)
theorem Ck (x3 x5:LV) {R:LV.RT} {st:aa} (h:vg x3 x5 R st):gN x3 x5 R st:=
 pz J4 [] h
def FK (x0 x2 x4 x5:LV) (R:LV.RT) (st:aa):Prop:=LTg Tryz.prog (kindOf false) [.cell 2 31,.tmp 3] (aW Tryz.f106 4) [] R (x0::.aL::x2::.aL::x4::x5::(LV.jk 81 [])) st
def df (x0 x2 x4 x5 x6:LV) (R:LV.RT) (st:aa):Prop:=LTg Tryz.prog (kindOf false) [.cell 2 31,.tmp 3] (aW Tryz.f106 7) [] R (x0::.aL::x2::.aL::x4::x5::x6::(LV.jk 80 [])) st
def vh (x2 x3:LV) (R:LV.RT) (st:aa):Prop:=LTg Tryz.prog (kindOf false) [.cell 2 31,.tmp 3] (aW Tryz.f106 17) [] R (.aL::.aL::x2::x3::(LV.jk 83 [])) st
def Cl:List Nat:=(LV.gx 1 86 [2,4,5,6])
def Cm:List (Nat × List Nat):=[(4,(LV.gx 1 86 [2,4,5])),(14,(LV.gx 0 87 [2,3]))]
def Nl (a0:LV) (R:LV.RT) (st:aa):Prop:=
 nw st [LV.str [],LV.str [],i64 0,LV.nils,LV.nils,LV.nils,LV.bool false,LV.bool false,LV.bool false,LV.bool false] fun v0 oF=>LZ 160 [a0] oF fun v2 gE=>bd (bg v2) fun v4=>bd (ah BinOp.lss v4 (i64 3)) fun v5=>ak v5
 (bd
 (aP
 (ao (aA [(0,1),(1,1),(2,4),(6,1),(7,1),(8,1),(9,1)])
 [LV.str [],LV.str [],i64 0,LV.nils,LV.nils,LV.nils,LV.bool false,LV.bool false,LV.bool false,LV.bool false] []))
 fun v6=>bd2 (lmk (stV gE 10 v0 v6)) fun _ iD=>bd (ldA iD v0 10) fun v9=>R (LV.tup [v9,LV.bool false]) iD)
 (bd (aK 1 v2 (i64 1)) fun iF=>bd (ld1 gE iF) fun iN=>bd (aK 1 v2 (i64 2)) fun iS=>bd (ld1 gE iS) fun mK=>bd
 (aP
 (ao (aA [(0,1),(1,1),(2,4),(6,1),(7,1),(8,1),(9,1)])
 [LV.str [],LV.str [],i64 0,LV.nils,LV.nils,LV.nils,LV.bool false,LV.bool false,LV.bool false,LV.bool false] [(0,iN),(1,mK)]))
 fun oR=>nw gE [LV.str [],LV.str [],i64 0,LV.nils,LV.nils,LV.nils,LV.bool false,LV.bool false,LV.bool false,LV.bool false] fun nE eQ=>ld1 eQ iS=some mK∧ld1 eQ iF=some iN∧bd2 (lmk (stV eQ 10 nE oR)) fun _ gT=>FK a0 v0 v2 nE R gT)
theorem Og (a0:LV) {R:LV.RT} {st:aa} (h:Nl a0 R st):LZ 106 [a0] st R:=
 cz Cl Cm [.cell 2 31,.tmp 3] Tryz.func106 h
def FL (x0 x2 x4 x5:LV) (R:LV.RT) (st:aa):Prop:=
 df x0 x2 x4 x5 (i64 3) R st
theorem Lu (x0 x2 x4 x5:LV) {R:LV.RT} {st:aa} (h:FL x0 x2 x4 x5 R st):FK x0 x2 x4 x5 R st:=
 pz Cl Cm h
def Ae (x0 x2 x4 x5 x6:LV) (R:LV.RT) (st:aa):Prop:=
 bd (bg x4) fun v0=>bd (ah BinOp.lss x6 v0) fun v1=>ak v1
 (bd (ad 6 x5) fun v2=>bd (ld1 st v2) fun v3=>ak v3
 (bd (ad 6 x5) fun v4=>bd2 (lmk (stV st 1 v4 (LV.bool true))) fun _v5 st6=>bd (ad 7 x5) fun v7=>bd (ld1 st6 v7) fun v8=>ak v8
 (bd (ad 7 x5) fun v9=>bd2 (lmk (stV st6 1 v9 (LV.bool true))) fun _v10 mK=>bd (ad 8 x5) fun v12=>bd (ld1 mK v12) fun v13=>ak v13
 (bd (ad 8 x5) fun v14=>bd2 (lmk (stV mK 1 v14 (LV.bool true))) fun _v15 nE=>bd (ad 9 x5) fun v17=>bd (ld1 nE v17) fun v18=>ak v18
 (bd (ad 9 x5) fun v19=>bd2 (lmk (stV nE 1 v19 (LV.bool true))) fun _v20 st21=>bd (ah BinOp.add x6 (i64 1)) fun v22=>df x0 x2 x4 x5 v22 R st21)
 (bd (aK 1 x4 x6) fun v23=>bd (ld1 nE v23) fun v24=>bd (bE BinOp.eql v24 (LV.str [110,101,119])) fun v25=>bd (ad 9 x5) fun v26=>bd2 (lmk (stV nE 1 v26 v25)) fun _v27 st28=>bd (ah BinOp.add x6 (i64 1)) fun v29=>df x0 x2 x4 x5 v29 R st28))
 (bd (aK 1 x4 x6) fun v30=>bd (ld1 mK v30) fun v31=>bd (bE BinOp.eql v31 (LV.str [104,105,100,101])) fun v32=>bd (ad 8 x5) fun v33=>bd2 (lmk (stV mK 1 v33 v32)) fun _v34 oF=>bd (ad 9 x5) fun v36=>bd (ld1 oF v36) fun v37=>ak v37
 (bd (ad 9 x5) fun v38=>bd2 (lmk (stV oF 1 v38 (LV.bool true))) fun _v39 st40=>bd (ah BinOp.add x6 (i64 1)) fun v41=>df x0 x2 x4 x5 v41 R st40)
 (bd (aK 1 x4 x6) fun v42=>bd (ld1 oF v42) fun v43=>bd (bE BinOp.eql v43 (LV.str [110,101,119])) fun v44=>bd (ad 9 x5) fun v45=>bd2 (lmk (stV oF 1 v45 v44)) fun _v46 st47=>bd (ah BinOp.add x6 (i64 1)) fun v48=>df x0 x2 x4 x5 v48 R st47)))
 (bd (aK 1 x4 x6) fun v49=>bd (ld1 st6 v49) fun v50=>bd (bE BinOp.eql v50 (LV.str [111,119,110])) fun v51=>bd (ad 7 x5) fun v52=>bd2 (lmk (stV st6 1 v52 v51)) fun _v53 oR=>bd (ad 8 x5) fun v55=>bd (ld1 oR v55) fun v56=>ak v56
 (bd (ad 8 x5) fun v57=>bd2 (lmk (stV oR 1 v57 (LV.bool true))) fun _v58 rW=>bd (ad 9 x5) fun v60=>bd (ld1 rW v60) fun v61=>ak v61
 (bd (ad 9 x5) fun v62=>bd2 (lmk (stV rW 1 v62 (LV.bool true))) fun _v63 st64=>bd (ah BinOp.add x6 (i64 1)) fun v65=>df x0 x2 x4 x5 v65 R st64)
 (bd (aK 1 x4 x6) fun v66=>bd (ld1 rW v66) fun v67=>bd (bE BinOp.eql v67 (LV.str [110,101,119])) fun v68=>bd (ad 9 x5) fun v69=>bd2 (lmk (stV rW 1 v69 v68)) fun _v70 st71=>bd (ah BinOp.add x6 (i64 1)) fun v72=>df x0 x2 x4 x5 v72 R st71))
 (bd (aK 1 x4 x6) fun v73=>bd (ld1 oR v73) fun v74=>bd (bE BinOp.eql v74 (LV.str [104,105,100,101])) fun v75=>bd (ad 8 x5) fun v76=>bd2 (lmk (stV oR 1 v76 v75)) fun _v77 aS=>bd (ad 9 x5) fun v79=>bd (ld1 aS v79) fun v80=>ak v80
 (bd (ad 9 x5) fun v81=>bd2 (lmk (stV aS 1 v81 (LV.bool true))) fun _v82 st83=>bd (ah BinOp.add x6 (i64 1)) fun v84=>df x0 x2 x4 x5 v84 R st83)
 (bd (aK 1 x4 x6) fun v85=>bd (ld1 aS v85) fun v86=>bd (bE BinOp.eql v86 (LV.str [110,101,119])) fun v87=>bd (ad 9 x5) fun v88=>bd2 (lmk (stV aS 1 v88 v87)) fun _v89 st90=>bd (ah BinOp.add x6 (i64 1)) fun v91=>df x0 x2 x4 x5 v91 R st90))))
 (bd (aK 1 x4 x6) fun v92=>bd (ld1 st v92) fun v93=>bd (bE BinOp.eql v93 (LV.str [109,117,115,116])) fun v94=>bd (ad 6 x5) fun v95=>bd2 (lmk (stV st 1 v95 v94)) fun _v96 aT=>bd (ad 7 x5) fun v98=>bd (ld1 aT v98) fun v99=>ak v99
 (bd (ad 7 x5) fun v100=>bd2 (lmk (stV aT 1 v100 (LV.bool true))) fun _v101 gE=>bd (ad 8 x5) fun v103=>bd (ld1 gE v103) fun v104=>ak v104
 (bd (ad 8 x5) fun v105=>bd2 (lmk (stV gE 1 v105 (LV.bool true))) fun _v106 gT=>bd (ad 9 x5) fun v108=>bd (ld1 gT v108) fun v109=>ak v109
 (bd (ad 9 x5) fun v110=>bd2 (lmk (stV gT 1 v110 (LV.bool true))) fun _v111 lT=>bd (ah BinOp.add x6 (i64 1)) fun v113=>df x0 x2 x4 x5 v113 R lT)
 (bd (aK 1 x4 x6) fun v114=>bd (ld1 gT v114) fun v115=>bd (bE BinOp.eql v115 (LV.str [110,101,119])) fun v116=>bd (ad 9 x5) fun v117=>bd2 (lmk (stV gT 1 v117 v116)) fun _v118 p7=>bd (ah BinOp.add x6 (i64 1)) fun v120=>df x0 x2 x4 x5 v120 R p7))
 (bd (aK 1 x4 x6) fun v121=>bd (ld1 gE v121) fun v122=>bd (bE BinOp.eql v122 (LV.str [104,105,100,101])) fun v123=>bd (ad 8 x5) fun v124=>bd2 (lmk (stV gE 1 v124 v123)) fun _v125 iD=>bd (ad 9 x5) fun v127=>bd (ld1 iD v127) fun v128=>ak v128
 (bd (ad 9 x5) fun v129=>bd2 (lmk (stV iD 1 v129 (LV.bool true))) fun _v130 p8=>bd (ah BinOp.add x6 (i64 1)) fun v132=>df x0 x2 x4 x5 v132 R p8)
 (bd (aK 1 x4 x6) fun v133=>bd (ld1 iD v133) fun v134=>bd (bE BinOp.eql v134 (LV.str [110,101,119])) fun v135=>bd (ad 9 x5) fun v136=>bd2 (lmk (stV iD 1 v136 v135)) fun _v137 p9=>bd (ah BinOp.add x6 (i64 1)) fun v139=>df x0 x2 x4 x5 v139 R p9)))
 (bd (aK 1 x4 x6) fun v140=>bd (ld1 aT v140) fun v141=>bd (bE BinOp.eql v141 (LV.str [111,119,110])) fun v142=>bd (ad 7 x5) fun v143=>bd2 (lmk (stV aT 1 v143 v142)) fun _v144 iF=>bd (ad 8 x5) fun v146=>bd (ld1 iF v146) fun v147=>ak v147
 (bd (ad 8 x5) fun v148=>bd2 (lmk (stV iF 1 v148 (LV.bool true))) fun _v149 iN=>bd (ad 9 x5) fun v151=>bd (ld1 iN v151) fun v152=>ak v152
 (bd (ad 9 x5) fun v153=>bd2 (lmk (stV iN 1 v153 (LV.bool true))) fun _v154 tO=>bd (ah BinOp.add x6 (i64 1)) fun v156=>df x0 x2 x4 x5 v156 R tO)
 (bd (aK 1 x4 x6) fun v157=>bd (ld1 iN v157) fun v158=>bd (bE BinOp.eql v158 (LV.str [110,101,119])) fun v159=>bd (ad 9 x5) fun v160=>bd2 (lmk (stV iN 1 v160 v159)) fun _v161 st162=>bd (ah BinOp.add x6 (i64 1)) fun v163=>df x0 x2 x4 x5 v163 R st162))
 (bd (aK 1 x4 x6) fun v164=>bd (ld1 iF v164) fun v165=>bd (bE BinOp.eql v165 (LV.str [104,105,100,101])) fun v166=>bd (ad 8 x5) fun v167=>bd2 (lmk (stV iF 1 v167 v166)) fun _v168 iS=>bd (ad 9 x5) fun v170=>bd (ld1 iS v170) fun v171=>ak v171
 (bd (ad 9 x5) fun v172=>bd2 (lmk (stV iS 1 v172 (LV.bool true))) fun _v173 st174=>bd (ah BinOp.add x6 (i64 1)) fun v175=>df x0 x2 x4 x5 v175 R st174)
 (bd (aK 1 x4 x6) fun v176=>bd (ld1 iS v176) fun v177=>bd (bE BinOp.eql v177 (LV.str [110,101,119])) fun v178=>bd (ad 9 x5) fun v179=>bd2 (lmk (stV iS 1 v179 v178)) fun _v180 st181=>bd (ah BinOp.add x6 (i64 1)) fun v182=>df x0 x2 x4 x5 v182 R st181)))))
 (bd (aK 1 x4 (i64 2)) fun v183=>bd (ld1 st v183) fun v184=>LZ 161 [v184] st fun v185 st186=>bd (aj v185 0) fun v187=>bd (aj v185 1) fun v188=>nw st186 [i64 0,LV.nils,LV.nils,LV.nils] fun v189 st190=>nw st190 [i64 0,i64 0] fun v191 st192=>bd2 (lmk (stV st192 4 v189 v187)) fun _v193 st194=>bd2 (lmk (stV st194 2 v191 v188)) fun _v195 bY=>bd (ldA bY v189 4) fun v197=>bd (ad 2 x5) fun v198=>bd2 (lmk (stV bY 4 v198 v197)) fun _v199 eQ=>bd (ldA eQ x5 10) fun lE=>bd (ad 1 v191) fun v202=>bd (ld1 eQ v202) fun v203=>bd (ah BinOp.eql v203 (i64 0)) fun v204=>ak v204
 (bd (ldA eQ x5 10) fun v205=>LZ 162 [v205] eQ fun v206 dO=>ldA dO x5 10=some lE∧bd (bE BinOp.eql v206 x0) fun v208=>bd2 (lmk (stV dO 10 x2 lE)) fun _v209 st210=>vh x2 v208 R st210)
 (bd2 (lmk (stV eQ 10 x2 lE)) fun _v211 st212=>vh x2 (LV.bool false) R st212))
theorem FM (x0 x2 x4 x5 x6:LV) {R:LV.RT} {st:aa} (h:Ae x0 x2 x4 x5 x6 R st):df x0 x2 x4 x5 x6 R st:=
 pz Cl Cm h
def vi (x2 x3:LV) (R:LV.RT) (st:aa):Prop:=
 bd (ldA st x2 10) fun v0=>R (LV.tup [v0,x3]) st
theorem Cn (x2 x3:LV) {R:LV.RT} {st:aa} (h:vi x2 x3 R st):vh x2 x3 R st:=
 pz Cl Cm h
def vk (x2 x3 x6:LV) (R:LV.RT) (st:aa):Prop:=LTg Tryz.prog (kindOf false) [.tmp 4,.tmp 5] (aW Tryz.f111 5) [] R (.aL::.aL::x2::x3::.aL::.aL::x6::(LV.jk 48 [])) st
def J5:List Nat:=(LV.gx 0 55 [2,3,6])
def Nn (a0 a1:LV) (R:LV.RT) (st:aa):Prop:=
 bd2 (ca st a0) fun v0 gE=>bd2 (ca gE a1) fun v2 eQ=>bd (ad 0 v2) fun v4=>bd (ld1 eQ v4) fun v5=>bd (ah BinOp.neq v5 (i64 7)) fun v6=>ak v6 (R (LV.tup [LV.str [],i64 6]) eQ) (vk v0 v2 (i64 0) R eQ)
theorem Oh (a0 a1:LV) {R:LV.RT} {st:aa} (h:Nn a0 a1 R st):LZ 111 [a0,a1] st R:=
 cz J5 [] [.tmp 4,.tmp 5] Tryz.func111 h
def Af (x2 x3 x6:LV) (R:LV.RT) (st:aa):Prop:=
 bd (ad 5 x3) fun v0=>bd (ld1 st v0) fun v1=>bd (bg v1) fun v2=>bd (ah BinOp.lss x6 v2) fun v3=>ak v3
 (bd (ldA st x2 2) fun v4=>bd (ad 6 x3) fun v5=>bd (ld1 st v5) fun v6=>bd (aK 1 v6 x6) fun v7=>bd (ld1 st v7) fun v8=>LZ 40 [v4,v8] st fun v9 eQ=>bd (ah BinOp.lss v9 (i64 0)) fun iD=>ak iD (bd (ad 6 x3) fun iF=>bd (ld1 eQ iF) fun iN=>bd (aK 1 iN x6) fun iS=>bd (ld1 eQ iS) fun mK=>R (LV.tup [mK,i64 7]) eQ)
 (bd (ad 1 x2) fun nE=>bd (ld1 eQ nE) fun oF=>bd (aK 10 oF v9) fun oR=>bd (ad 2 oR) fun rW=>bd (ldA eQ rW 4) fun aS=>bd (ad 5 x3) fun aT=>bd (ld1 eQ aT) fun bY=>bd (aK 7 bY x6) fun dO=>bd (ldA eQ dO 7) fun lE=>LZ 134 [aS,lE] eQ fun gT gE=>bd (aj gT 0) fun _=>bd (aj gT 1) fun lT=>ak lT
 (bd (ad 6 x3) fun p7=>bd (ld1 gE p7) fun p8=>bd (aK 1 p8 x6) fun p9=>bd (ld1 gE p9) fun tO=>R (LV.tup [tO,i64 6]) gE)
 (bd (ah BinOp.add x6 (i64 1)) fun v33=>vk x2 x3 v33 R gE)))
 (R (LV.tup [LV.str [],i64 0]) st)
theorem FN (x2 x3 x6:LV) {R:LV.RT} {st:aa} (h:Af x2 x3 x6 R st):vk x2 x3 x6 R st:=
 pz J5 [] h
def mM (x0 x3 x4 x5:LV) (R:LV.RT) (st:aa):Prop:=LTg Tryz.prog (kindOf false) [.tmp 2] (aW Tryz.f160 5) [] R (x0::.aL::.aL::x3::x4::x5::(LV.jk 26 [])) st
def J6:List Nat:=(LV.gx 1 31 [3,4,5])
def Oi (a0:LV) (R:LV.RT) (st:aa):Prop:=
 mM a0 LV.nils (i64 0) (i64 0) R st
theorem c160 (a0:LV) {R:LV.RT} {st:aa} (h:Oi a0 R st):LZ 160 [a0] st R:=
 cz J6 [] [.tmp 2] Tryz.func160 h
def vl (x0 x3 x4 x5:LV) (R:LV.RT) (st:aa):Prop:=
 bd (bK x0) fun v0=>bd (ah BinOp.leq x5 v0) fun v1=>ak v1
 (bd (bK x0) fun v2=>bd (ah BinOp.eql x5 v2) fun v3=>ak v3
 (bd (ob3 (some x4) (some x5) none fun l h m=>cI x0 l h m) fun v4=>bd2 (aN st 1 (ao (fun i=>some (i*1,1)) (List.replicate 1 [LV.str []]).flatten [(0,v4)])) fun v5 gT=>bd2 (ar gT 1 16 Md.rw x3 v5) fun v7 iD=>bd (ah BinOp.add x5 (i64 1)) fun v9=>bd (ah BinOp.add x5 (i64 1)) fun iF=>mM x0 v7 v9 iF R iD)
 (bd (cA x0 x5) fun iN=>bd (ah BinOp.eql iN (LV.int IntKind.u8 32)) fun iS=>ak iS
 (bd (ob3 (some x4) (some x5) none fun l h m=>cI x0 l h m) fun mK=>bd2 (aN st 1 (ao (fun i=>some (i*1,1)) (List.replicate 1 [LV.str []]).flatten [(0,mK)])) fun nE eQ=>bd2 (ar eQ 1 16 Md.rw x3 nE) fun oF gE=>bd (ah BinOp.add x5 (i64 1)) fun oR=>bd (ah BinOp.add x5 (i64 1)) fun rW=>mM x0 oF oR rW R gE)
 (bd (ah BinOp.add x5 (i64 1)) fun aS=>mM x0 x3 x4 aS R st)))
 (R x3 st)
theorem Ag (x0 x3 x4 x5:LV) {R:LV.RT} {st:aa} (h:vl x0 x3 x4 x5 R st):mM x0 x3 x4 x5 R st:=
 pz J6 [] h
def No (a0:LV) (R:LV.RT) (st:aa):Prop:=
 bd2 (ca st a0) fun v0 eQ=>bd (ad 0 v0) fun v2=>bd (ld1 eQ v2) fun v3=>bd (bE BinOp.add (LV.str [97,116,116,114,32]) v3) fun v4=>bd (bE BinOp.add v4 (LV.str [32])) fun v5=>bd (ad 1 v0) fun v6=>bd (ld1 eQ v6) fun v7=>bd (bE BinOp.add v5 v7) fun v8=>bd (ad 6 v0) fun v9=>bd (ld1 eQ v9) fun nE=>ak nE
 (bd (bE BinOp.add v8 (LV.str [32,109,117,115,116])) fun gE=>bd (ad 7 v0) fun oF=>bd (ld1 eQ oF) fun oR=>ak oR
 (bd (bE BinOp.add gE (LV.str [32,111,119,110])) fun gT=>bd (ad 8 v0) fun rW=>bd (ld1 eQ rW) fun aS=>ak aS
 (bd (bE BinOp.add gT (LV.str [32,104,105,100,101])) fun iF=>bd (ad 9 v0) fun aT=>bd (ld1 eQ aT) fun bY=>ak bY (bd (bE BinOp.add iF (LV.str [32,110,101,119])) fun dO=>R dO eQ) (R iF eQ))
 (bd (ad 9 v0) fun lE=>bd (ld1 eQ lE) fun lT=>ak lT (bd (bE BinOp.add gT (LV.str [32,110,101,119])) fun p7=>R p7 eQ) (R gT eQ)))
 (bd (ad 8 v0) fun p8=>bd (ld1 eQ p8) fun p9=>ak p9
 (bd (bE BinOp.add gE (LV.str [32,104,105,100,101])) fun iN=>bd (ad 9 v0) fun tO=>bd (ld1 eQ tO) fun v28=>ak v28 (bd (bE BinOp.add iN (LV.str [32,110,101,119])) fun v29=>R v29 eQ) (R iN eQ))
 (bd (ad 9 v0) fun v30=>bd (ld1 eQ v30) fun v31=>ak v31 (bd (bE BinOp.add gE (LV.str [32,110,101,119])) fun v32=>R v32 eQ) (R gE eQ))))
 (bd (ad 7 v0) fun v33=>bd (ld1 eQ v33) fun v34=>ak v34
 (bd (bE BinOp.add v8 (LV.str [32,111,119,110])) fun iD=>bd (ad 8 v0) fun v36=>bd (ld1 eQ v36) fun v37=>ak v37
 (bd (bE BinOp.add iD (LV.str [32,104,105,100,101])) fun iS=>bd (ad 9 v0) fun v39=>bd (ld1 eQ v39) fun v40=>ak v40 (bd (bE BinOp.add iS (LV.str [32,110,101,119])) fun v41=>R v41 eQ) (R iS eQ))
 (bd (ad 9 v0) fun v42=>bd (ld1 eQ v42) fun v43=>ak v43 (bd (bE BinOp.add iD (LV.str [32,110,101,119])) fun v44=>R v44 eQ) (R iD eQ)))
 (bd (ad 8 v0) fun v45=>bd (ld1 eQ v45) fun v46=>ak v46
 (bd (bE BinOp.add v8 (LV.str [32,104,105,100,101])) fun mK=>bd (ad 9 v0) fun v48=>bd (ld1 eQ v48) fun v49=>ak v49 (bd (bE BinOp.add mK (LV.str [32,110,101,119])) fun v50=>R v50 eQ) (R mK eQ))
 (bd (ad 9 v0) fun v51=>bd (ld1 eQ v51) fun v52=>ak v52 (bd (bE BinOp.add v8 (LV.str [32,110,101,119])) fun v53=>R v53 eQ) (R v8 eQ))))
theorem c162 (a0:LV) {R:LV.RT} {st:aa} (h:No a0 R st):LZ 162 [a0] st R:=
 cz [] [] [.tmp 2] Tryz.func162 h
def kT (x0 x3:LV) (R:LV.RT) (st:aa):Prop:=LTg Tryz.prog (kindOf false) [.tmp 2] (aW Tryz.f104 7) [] R (x0::.aL::.aL::x3::(LV.jk 25 [])) st
def J7:List Nat:=(LV.gx 1 28 [3])
def Np (a0:LV) (R:LV.RT) (st:aa):Prop:=
 bd (ah BinOp.lss a0 (i64 0)) fun v0=>ak v0
 (bd (ah BinOp.eql a0 (i64 (-9223372036854775808))) fun v1=>ak v1 (R (LV.str [45,57,50,50,51,51,55,50,48,51,54,56,53,52,55,55,53,56,48,56]) st)
 (bd (lun UnOp.neg a0) fun v2=>LZ 104 [v2] st fun v3 eQ=>bd (bE BinOp.add (LV.str [45]) v3) fun v5=>R v5 eQ))
 (kT a0 (LV.str []) R st)
theorem Oj (a0:LV) {R:LV.RT} {st:aa} (h:Np a0 R st):LZ 104 [a0] st R:=
 cz J7 [] [.tmp 2] Tryz.func104 h
def Ah (x0 x3:LV) (R:LV.RT) (st:aa):Prop:=
 bd (bE BinOp.eql x3 (LV.str [])) fun v0=>ak v0
 (bd (ah BinOp.rem x0 (i64 10)) fun v1=>bd (ah BinOp.add (i64 48) v1) fun v2=>bd (fY IntKind.u8 v2) fun v3=>bd2 (aN st 1 (ao (fun i=>some (i*1,1)) (List.replicate 1 [LV.int IntKind.u8 0]).flatten [(0,v3)])) fun v4 gE=>bd (eN gE v4) fun v6=>bd (bE BinOp.add v6 x3) fun v7=>bd (ah BinOp.quo x0 (i64 10)) fun v8=>kT v8 v7 R gE)
 (bd (ah BinOp.gtr x0 (i64 0)) fun v9=>ak v9
 (bd (ah BinOp.rem x0 (i64 10)) fun gT=>bd (ah BinOp.add (i64 48) gT) fun iD=>bd (fY IntKind.u8 iD) fun iF=>bd2 (aN st 1 (ao (fun i=>some (i*1,1)) (List.replicate 1 [LV.int IntKind.u8 0]).flatten [(0,iF)])) fun iN eQ=>bd (eN eQ iN) fun iS=>bd (bE BinOp.add iS x3) fun mK=>bd (ah BinOp.quo x0 (i64 10)) fun nE=>kT nE mK R eQ)
 (R x3 st))
theorem FO (x0 x3:LV) {R:LV.RT} {st:aa} (h:Ah x0 x3 R st):kT x0 x3 R st:=
 pz J7 [] h
def w26 (a0:LV) (R:LV.RT) (st:aa):Prop:=
 nw st [i64 0,LV.nils] fun v0 nE=>bd (bK a0) fun v2=>bd (ah BinOp.gtr v2 (i64 600)) fun v3=>ak v3
 (bd (aP (ao (aA [(0,1),(1,1)]) [i64 0,LV.nils] [])) fun v4=>bd2 (lmk (stV nE 2 v0 v4)) fun _v5 oF=>bd (ldA oF v0 2) fun v7=>R (LV.tup [LV.nilp,v7,i64 1]) oF)
 (LZ 35 [a0] nE fun v8 oR=>bd (aj v8 0) fun rW=>bd (aj v8 1) fun _=>bd (aj v8 2) fun aS=>nw oR [i64 0,LV.nils] fun iF iN=>bd2 (lmk (stV iN 2 iF rW)) fun _ iS=>LZ 21 [a0] iS fun mK eQ=>bd (aj mK 0) fun aT=>bd (aj mK 1) fun _=>bd (aj mK 2) fun bY=>bd (ah BinOp.neq aS (i64 0)) fun dO=>ak dO (bd (ldA eQ iF 2) fun lE=>bd2 (lmk (stV eQ 2 v0 lE)) fun _ gE=>bd (ldA gE v0 2) fun lT=>R (LV.tup [LV.nilp,lT,i64 1]) gE)
 (bd (ah BinOp.neq bY (i64 0)) fun p7=>ak p7
 (bd (ldA eQ iF 2) fun p8=>bd2 (lmk (stV eQ 2 v0 p8)) fun _ gT=>bd (ldA gT v0 2) fun p9=>R (LV.tup [LV.nilp,p9,i64 1]) gT)
 (bd (ldA eQ iF 2) fun tO=>bd2 (lmk (stV eQ 2 v0 tO)) fun _ iD=>bd (ldA iD v0 2) fun v35=>R (LV.tup [aT,v35,i64 0]) iD)))
theorem c26 (a0:LV) {R:LV.RT} {st:aa} (h:w26 a0 R st):LZ 26 [a0] st R:=
 cz [] [] [.tmp 2,.cell 3 52,.tmp 4] Tryz.func26 h
def J8 (x2 x3 x5 x6 x7 x8 x9 x10 x11 x12 x13 x14 x15:LV) (R:LV.RT) (st:aa):Prop:=LTg Tryz.prog (kindOf false) [.tmp 4] (aW Tryz.f31 5) [] R (.aL::.aL::x2::x3::.aL::x5::x6::x7::x8::x9::x10::x11::x12::x13::x14::x15::(LV.jk 179 [])) st
def ij (x2 x3 x7 x9 x10 x14 x15 x110:LV) (R:LV.RT) (st:aa):Prop:=LTg Tryz.prog (kindOf false) [.tmp 4] (aW Tryz.f31 6) [] R (.aL::.aL::x2::x3::(LV.jk 3 (x7::.aL::x9::x10::(LV.jk 3 (x14::x15::(LV.jk 94 (x110::(LV.jk 84 [])))))))) st
def gy (x2 x3 x14 x15 x16 x17:LV) (R:LV.RT) (st:aa):Prop:=LTg Tryz.prog (kindOf false) [.tmp 4] (aW Tryz.f31 13) [] R (.aL::.aL::x2::x3::(LV.jk 10 (x14::x15::x16::x17::(LV.jk 177 [])))) st
def vm (x2 x3 x14 x15 x16 x17 x18 x19:LV) (R:LV.RT) (st:aa):Prop:=LTg Tryz.prog (kindOf false) [.tmp 4] (aW Tryz.f31 17) [] R (.aL::.aL::x2::x3::(LV.jk 10 (x14::x15::x16::x17::x18::x19::(LV.jk 175 [])))) st
def FP:List Nat:=(LV.gx 0 195 [2,3,14,15,16,17])
def FQ:List (Nat × List Nat):=[(5,(LV.gx 0 195 [2,3,5,6,7,8,9,10,11,12,13,14,15])),(6,(LV.gx 0 195 [2,3,7,9,10,14,15,110])),(15,(LV.gx 0 195 [2,3,14,15,16,17,18,19]))]
def w31 (a0 a1:LV) (R:LV.RT) (st:aa):Prop:=
 bd2 (ca st a0) fun v0 rW=>bd2 (ca rW a1) fun v2 iS=>bd (ldA iS v0 1) fun v4=>LZ 97 [v4] iS fun v5 mK=>bd (aj v5 0) fun v7=>bd (aj v5 1) fun v8=>bd (ldA mK v0 1) fun v9=>LZ 98 [v9] mK fun nE gE=>bd (aj nE 0) fun aS=>bd (aj nE 1) fun aT=>bd (ldA gE v0 1) fun bY=>LZ 99 [bY] gE fun iF gT=>bd (aj iF 0) fun dO=>bd (aj iF 1) fun lE=>bd (aj iF 2) fun lT=>bd (ldA gT v0 1) fun p7=>LZ 100 [p7] gT fun oF eQ=>bd (aj oF 0) fun p8=>bd (aj oF 1) fun p9=>bd (ldA eQ v0 1) fun tO=>bd (ldA eQ v0 1) fun oR=>LZ 101 [tO] eQ fun v27 iD=>ldA iD v0 1=some oR∧LZ 49 [oR] iD fun v29 iN=>J8 v0 v2 v7 v8 aS aT dO lE lT p8 p9 v27 v29 R iN
theorem c31 (a0 a1:LV) {R:LV.RT} {st:aa} (h:w31 a0 a1 R st):LZ 31 [a0,a1] st R:=
 cz FP FQ [.tmp 4] Tryz.func31 h
def J9 (x2 x3 x5 x6 x7 x8 x9 x10 x11 x12 x13 x14 x15:LV) (R:LV.RT) (st:aa):Prop:=
 bd (ldA st x2 1) fun v0=>bd (ad 0 x3) fun v1=>bd (ld1 st v1) fun v2=>LZ 46 [v0] st fun v3 eQ=>ld1 eQ v1=some v2∧
 bd (ah BinOp.neq v3 v2) fun v5=>ak v5 (ij x2 x3 x7 x9 x10 x14 x15 (LV.bool true) R eQ)
 (bd (ad 0 x3) fun v6=>bd (ld1 eQ v6) fun v7=>bd (ah BinOp.eql v7 (i64 2)) fun v8=>bd (mY BinOp.neq x6 v8) fun v9=>ak v9 (ij x2 x3 x7 x9 x10 x14 x15 (LV.bool true) R eQ)
 (bd (ad 0 x3) fun gE=>bd (ld1 eQ gE) fun gT=>bd (ah BinOp.eql gT (i64 3)) fun iD=>bd (mY BinOp.neq x8 iD) fun iF=>ak iF (ij x2 x3 x7 x9 x10 x14 x15 (LV.bool true) R eQ)
 (bd (ad 0 x3) fun iN=>bd (ld1 eQ iN) fun iS=>bd (ah BinOp.eql iS (i64 4)) fun mK=>bd (mY BinOp.neq x11 mK) fun nE=>ak nE (ij x2 x3 x7 x9 x10 x14 x15 (LV.bool true) R eQ)
 (bd (ad 0 x3) fun oF=>bd (ld1 eQ oF) fun oR=>bd (ah BinOp.eql oR (i64 5)) fun rW=>bd (mY BinOp.neq x13 rW) fun aS=>ak aS (ij x2 x3 x7 x9 x10 x14 x15 (LV.bool true) R eQ)
 (bd (ad 0 x3) fun aT=>bd (ld1 eQ aT) fun bY=>bd (ah BinOp.eql bY (i64 2)) fun dO=>ak dO
 (bd (ad 1 x3) fun lE=>bd (ld1 eQ lE) fun lT=>bd (mY BinOp.neq x5 lT) fun p7=>ak p7 (ij x2 x3 x7 x9 x10 x14 x15 (LV.bool true) R eQ)
 (bd (ad 4 x3) fun p8=>bd (ld1 eQ p8) fun p9=>bd (bE BinOp.neq x12 p9) fun tO=>ak tO (ij x2 x3 x7 x9 x10 x14 x15 (LV.bool true) R eQ)
 (bd (bg x14) fun v31=>bd (ad 5 x3) fun v32=>bd (ld1 eQ v32) fun v33=>bd (bg v33) fun v34=>bd (ah BinOp.neq v31 v34) fun v35=>ak v35 (ij x2 x3 x7 x9 x10 x14 x15 (LV.bool true) R eQ)
 (bd (bg x15) fun v36=>bd (ad 6 x3) fun v37=>bd (ld1 eQ v37) fun v38=>bd (bg v38) fun v39=>bd (ah BinOp.neq v36 v39) fun v40=>ij x2 x3 x7 x9 x10 x14 x15 v40 R eQ))))
 (bd (mY BinOp.neq x5 (LV.bool false)) fun v41=>ak v41 (ij x2 x3 x7 x9 x10 x14 x15 (LV.bool true) R eQ)
 (bd (ad 4 x3) fun v42=>bd (ld1 eQ v42) fun v43=>bd (bE BinOp.neq x12 v43) fun v44=>ak v44 (ij x2 x3 x7 x9 x10 x14 x15 (LV.bool true) R eQ)
 (bd (bg x14) fun v45=>bd (ad 5 x3) fun v46=>bd (ld1 eQ v46) fun v47=>bd (bg v47) fun v48=>bd (ah BinOp.neq v45 v48) fun v49=>ak v49 (ij x2 x3 x7 x9 x10 x14 x15 (LV.bool true) R eQ)
 (bd (bg x15) fun v50=>bd (ad 6 x3) fun v51=>bd (ld1 eQ v51) fun v52=>bd (bg v52) fun v53=>bd (ah BinOp.neq v50 v53) fun v54=>ij x2 x3 x7 x9 x10 x14 x15 v54 R eQ)))))))))
theorem Nq (x2 x3 x5 x6 x7 x8 x9 x10 x11 x12 x13 x14 x15:LV) {R:LV.RT} {st:aa} (h:J9 x2 x3 x5 x6 x7 x8 x9 x10 x11 x12 x13 x14 x15 R st):J8 x2 x3 x5 x6 x7 x8 x9 x10 x11 x12 x13 x14 x15 R st:=
 pz FP FQ h
def Ka (x2 x3 x7 x9 x10 x14 x15 x110:LV) (R:LV.RT) (st:aa):Prop:=
 ak x110 (R (i64 1) st)
 (bd (ad 0 x3) fun v0=>bd (ld1 st v0) fun v1=>bd (ah BinOp.eql v1 (i64 3)) fun v2=>ak v2
 (bd (ad 2 x3) fun v3=>bd (ld1 st v3) fun v4=>bd (ah BinOp.neq x7 v4) fun v5=>ak v5 (R (i64 1) st)
 (bd (ad 0 x3) fun v6=>bd (ld1 st v6) fun v7=>bd (ah BinOp.eql v7 (i64 4)) fun v8=>ak v8
 (bd (ad 2 x3) fun v9=>bd (ld1 st v9) fun eQ=>bd (ah BinOp.neq x9 eQ) fun gE=>ak gE (R (i64 1) st)
 (bd (ad 3 x3) fun gT=>bd (ld1 st gT) fun iD=>bd (ah BinOp.neq x10 iD) fun iF=>ak iF (R (i64 1) st) (gy x2 x3 x14 x15 (i64 0) (i64 0) R st)))
 (gy x2 x3 x14 x15 (i64 0) (i64 0) R st)))
 (bd (ad 0 x3) fun iN=>bd (ld1 st iN) fun iS=>bd (ah BinOp.eql iS (i64 4)) fun mK=>ak mK
 (bd (ad 2 x3) fun nE=>bd (ld1 st nE) fun oF=>bd (ah BinOp.neq x9 oF) fun oR=>ak oR (R (i64 1) st)
 (bd (ad 3 x3) fun rW=>bd (ld1 st rW) fun aS=>bd (ah BinOp.neq x10 aS) fun aT=>ak aT (R (i64 1) st) (gy x2 x3 x14 x15 (i64 0) (i64 0) R st)))
 (gy x2 x3 x14 x15 (i64 0) (i64 0) R st)))
theorem Nr (x2 x3 x7 x9 x10 x14 x15 x110:LV) {R:LV.RT} {st:aa} (h:Ka x2 x3 x7 x9 x10 x14 x15 x110 R st):ij x2 x3 x7 x9 x10 x14 x15 x110 R st:=
 pz FP FQ h
def Ai (x2 x3 x14 x15 x16 x17:LV) (R:LV.RT) (st:aa):Prop:=
 bd (bg x14) fun v0=>bd (ah BinOp.lss x17 v0) fun v1=>ak v1
 (bd (ad 0 x3) fun v2=>bd (ld1 st v2) fun v3=>bd (ah BinOp.eql v3 (i64 7)) fun v4=>ak v4
 (bd (ldA st x2 1) fun v5=>bd (ad 6 x3) fun v6=>bd (ld1 st v6) fun v7=>bd (aK 1 v7 x17) fun v8=>bd (ld1 st v8) fun v9=>(nw st [LV.nili] fun mK eQ=>ld1 eQ v8=some v9∧
 ld1 eQ v6=some v7∧
 ldA eQ x2 1=some v5∧
 LZ 50 [v5,v9] eQ fun nE gT=>bd (aj nE 0) fun rW=>bd (aj nE 1) fun aS=>bd2 (lmk (stV gT 1 mK rW)) fun _ iD=>vm x2 x3 x14 x15 x16 x17 mK aS R iD)∧
 LZ 50 [v5,v9] st fun oF iF=>bd (aj oF 0) fun aT=>bd (aj oF 1) fun bY=>nw iF [LV.nili] fun oR gE=>ld1 gE v8=some v9∧ld1 gE v6=some v7∧ldA gE x2 1=some v5∧bd2 (lmk (stV gE 1 oR aT)) fun _ iN=>vm x2 x3 x14 x15 x16 x17 oR bY R iN)
 (bd (aK 1 x14 x17) fun dO=>bd (ldA st dO 1) fun lE=>bd (ad 5 x3) fun lT=>bd (ld1 st lT) fun p7=>bd (aK 7 p7 x17) fun p8=>bd (ldA st p8 7) fun p9=>LZ 31 [lE,p9] st fun tO iS=>bd (ah BinOp.add x16 tO) fun v34=>bd (ah BinOp.add x17 (i64 1)) fun v35=>gy x2 x3 x14 x15 v34 v35 R iS))
 (R x16 st)
theorem FR (x2 x3 x14 x15 x16 x17:LV) {R:LV.RT} {st:aa} (h:Ai x2 x3 x14 x15 x16 x17 R st):gy x2 x3 x14 x15 x16 x17 R st:=
 pz FP FQ h
def FT (x2 x3 x14 x15 x16 x17 x18 x19:LV) (R:LV.RT) (st:aa):Prop:=
 bd (aK 1 x15 x17) fun v0=>bd (ld1 st v0) fun v1=>bd (ad 6 x3) fun v2=>bd (ld1 st v2) fun v3=>bd (aK 1 v3 x17) fun v4=>bd (ld1 st v4) fun v5=>bd (bE BinOp.neq v1 v5) fun v6=>ak v6
 (bd (ah BinOp.add x16 (i64 1)) fun v7=>bd (aK 1 x14 x17) fun v8=>bd (ldA st v8 1) fun v9=>bd (ad 5 x3) fun iN=>bd (ld1 st iN) fun iS=>bd (aK 7 iS x17) fun mK=>bd (ldA st mK 7) fun nE=>LZ 31 [v9,nE] st fun oF gE=>bd (ah BinOp.add v7 oF) fun oR=>bd (ah BinOp.add x17 (i64 1)) fun rW=>gy x2 x3 x14 x15 oR rW R gE)
 (bd (lun UnOp.not x19) fun aS=>ak aS
 (bd (ah BinOp.add x16 (i64 1)) fun aT=>bd (aK 1 x14 x17) fun bY=>bd (ldA st bY 1) fun dO=>bd (ad 5 x3) fun lE=>bd (ld1 st lE) fun lT=>bd (aK 7 lT x17) fun p7=>bd (ldA st p7 7) fun p8=>LZ 31 [dO,p8] st fun p9 gT=>bd (ah BinOp.add aT p9) fun tO=>bd (ah BinOp.add x17 (i64 1)) fun v29=>gy x2 x3 x14 x15 tO v29 R gT)
 (bd (ldA st x18 1) fun v30=>bd (ad 5 x3) fun v31=>bd (ld1 st v31) fun v32=>bd (aK 7 v32 x17) fun v33=>bd (ldA st v33 7) fun v34=>LZ 31 [v30,v34] st fun v35 eQ=>bd (ah BinOp.gtr v35 (i64 0)) fun v37=>ak v37
 (bd (ah BinOp.add x16 (i64 1)) fun v38=>bd (aK 1 x14 x17) fun v39=>bd (ldA eQ v39 1) fun v40=>bd (ad 5 x3) fun v41=>bd (ld1 eQ v41) fun v42=>bd (aK 7 v42 x17) fun v43=>bd (ldA eQ v43 7) fun v44=>LZ 31 [v40,v44] eQ fun v45 iD=>bd (ah BinOp.add v38 v45) fun v47=>bd (ah BinOp.add x17 (i64 1)) fun v48=>gy x2 x3 x14 x15 v47 v48 R iD)
 (bd (aK 1 x14 x17) fun v49=>bd (ldA eQ v49 1) fun v50=>bd (ad 5 x3) fun v51=>bd (ld1 eQ v51) fun v52=>bd (aK 7 v52 x17) fun v53=>bd (ldA eQ v53 7) fun v54=>LZ 31 [v50,v54] eQ fun v55 iF=>bd (ah BinOp.add x16 v55) fun v57=>bd (ah BinOp.add x17 (i64 1)) fun v58=>gy x2 x3 x14 x15 v57 v58 R iF)))
theorem Lv (x2 x3 x14 x15 x16 x17 x18 x19:LV) {R:LV.RT} {st:aa} (h:FT x2 x3 x14 x15 x16 x17 x18 x19 R st):vm x2 x3 x14 x15 x16 x17 x18 x19 R st:=
 pz FP FQ h
end Go.Proofs.YtknegckgmklnhaaGreatDoor
