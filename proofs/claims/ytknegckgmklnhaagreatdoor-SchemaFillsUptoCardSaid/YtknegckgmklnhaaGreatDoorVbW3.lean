/- Walks over the clean machine: what each function does, printed by a program of this work (cq.py) out of the loaded functions; each is checked by the kernel. -/
import Derived.Test.YtknegckgmklnhaaGreatDoorProg
import Derived.Test.YtknegckgmklnhaaGreatDoorVbW
namespace Go.Proofs.YtknegckgmklnhaaGreatDoor
open Go Go.CP
set_option maxRecDepth 100000
def P20_10 (x6 x7 x28 x29 x30:LV) (R:LV.RT) (st:aa):Prop:=LTg Tryz.prog (kindOf false) [.tmp 4,.tmp 5] (bg Tryz.f20 10) [] R (LV.jk 6 (x6::x7::(LV.jk 20 (x28::x29::x30::(LV.jk 23 []))))) st
def GM:List Nat:=(LV.gx 0 54 [6,7,28,29,30])
def w20 (a0 a1:LV) (R:LV.RT) (st:aa):Prop:=
 bd (al BinOp.lss a0 (i64 0)) fun v0=>aq v0 (R (LV.tup [LV.nilp,i64 2]) st)
 (bd (al BinOp.gtr a0 (i64 1000)) fun v1=>aq v1 (R (LV.tup [LV.nilp,i64 2]) st)
 (bd (bq a1) fun v2=>bd (al BinOp.gtr v2 (i64 16)) fun v3=>aq v3 (R (LV.tup [LV.nilp,i64 3]) st)
 (LZ 78 [a1] st fun v4 st5=>AQ st5 fun v6 st7=>bd (aP (ao (az [(0,1),(1,1),(2,1)]) [i64 0,LV.nils,LV.nilm] [(0,a0),(1,v4),(2,v6)])) fun v8=>bd2 (cL st7 v8) fun v9 st10=>bd (bq a1) fun v11=>P20_10 v9 (LV.str []) a1 v11 (i64 0) R st10)))
theorem c20 (a0 a1:LV) {R:LV.RT} {st:aa} (h:w20 a0 a1 R st):LZ 20 [a0,a1] st R:=
 cz GM [] [.tmp 4,.tmp 5] Tryz.func20 h
def w20_10 (x6 x7 x28 x29 x30:LV) (R:LV.RT) (st:aa):Prop:=
 bd (al BinOp.lss x30 x29) fun v0=>aq v0
 (bd (aW 6 x28 x30) fun v1=>bd (ldA st v1 6) fun v2=>nw st [LV.str [],LV.nilp,LV.bool false,LV.bool false,LV.bool false,LV.bool false] fun v3 st4=>bd2 (lmk (stV st4 6 v3 v2)) fun _v5 st6=>bd (ldA st6 v3 6) fun v7=>LZ 79 [v7,x7] st6 fun v8 st9=>bd (al BinOp.neq v8 (i64 0)) fun v10=>aq v10 (R (LV.tup [LV.nilp,v8]) st9)
 (bd (ah x6) fun v11=>bd (ad 2 v11) fun v12=>bd (ld1 st9 v12) fun v13=>bd (ad 0 v3) fun v14=>bd (ld1 st9 v14) fun v15=>bd (ad 0 v3) fun v16=>bd (ld1 st9 v16) fun v17=>bd2 (pV st9 true (some (i64 0)) v13 v15) fun v18 st19=>ld1 st19 v16=some v17∧
 bd (aj v18 1) fun v20=>bd2 (lmk (gr st19 v13 v20 x30)) fun _v21 st22=>ld1 st22 v16=some v17∧bd (al BinOp.add x30 (i64 1)) fun v23=>P20_10 x6 v17 x28 x29 v23 R st22))
 (R (LV.tup [x6,i64 0]) st)
theorem p20_10 (x6 x7 x28 x29 x30:LV) {R:LV.RT} {st:aa} (h:w20_10 x6 x7 x28 x29 x30 R st):P20_10 x6 x7 x28 x29 x30 R st:=
 pz GM [] h
def w37 (a0:LV) (R:LV.RT) (st:aa):Prop:=
 bd (eqB BinOp.eql (eN true a0 LV.nilp)) fun v0=>aq v0 (R (i64 0) st) (bd (ah a0) fun v1=>bd (ad 0 v1) fun v2=>bd (ld1 st v2) fun v3=>R v3 st)
theorem c37 (a0:LV) {R:LV.RT} {st:aa} (h:w37 a0 R st):LZ 37 [a0] st R:=
 cz [] [] [.tmp 2] Tryz.func37 h
def P21_10 (x6 x8 x10 x11 x12:LV) (R:LV.RT) (st:aa):Prop:=LTg Tryz.prog (kindOf false) [.tmp 2,.tmp 3,.tmp 4] (bg Tryz.f21 10) [] R (LV.jk 6 (x6::.aM::x8::.aM::x10::x11::x12::(LV.jk 74 []))) st
def P21_18 (x6 x8 x10 x11 x12:LV) (R:LV.RT) (st:aa):Prop:=LTg Tryz.prog (kindOf false) [.tmp 2,.tmp 3,.tmp 4] (bg Tryz.f21 18) [] R (LV.jk 6 (x6::.aM::x8::.aM::x10::x11::x12::(LV.jk 74 []))) st
def Fy:List Nat:=(LV.gx 0 87 [6,8,10,11,12])
def Fz:List (Nat × List Nat):=[(16,(LV.gx 0 87 [6,8,10,11,12]))]
def w21 (a0:LV) (R:LV.RT) (st:aa):Prop:=
 bd (bJ a0) fun v0=>bd (al BinOp.gtr v0 (i64 1048576)) fun v1=>aq v1 (R (LV.tup [LV.nilp,i64 0,i64 3]) st)
 (LZ 80 [a0,LV.str [10]] st fun v2 st3=>bd (aj v2 0) fun v4=>bd (aj v2 1) fun v5=>bd (aj v2 2) fun v6=>LZ 81 [v4] st3 fun v7 st8=>bd (aj v7 0) fun v9=>bd (aj v7 1) fun v10=>bd (lun UnOp.not v6) fun v11=>aq v11 (R (LV.tup [LV.nilp,i64 1,i64 4]) st8)
 (bd (lun UnOp.not v10) fun v12=>aq v12 (R (LV.tup [LV.nilp,i64 1,i64 4]) st8)
 (LZ 20 [v9,LV.nils] st8 fun v13 st14=>bd (aj v13 0) fun v15=>bd (aj v13 1) fun v16=>P21_10 v5 v9 v15 v16 (i64 2) R st14)))
theorem c21 (a0:LV) {R:LV.RT} {st:aa} (h:w21 a0 R st):LZ 21 [a0] st R:=
 cz Fy Fz [.tmp 2,.tmp 3,.tmp 4] Tryz.func21 h
def w21_10 (x6 x8 x10 x11 x12:LV) (R:LV.RT) (st:aa):Prop:=
 bd (al BinOp.eql x11 (i64 0)) fun v0=>aq v0
 (bd (bF BinOp.neq x6 (LV.str [])) fun v1=>aq v1
 (LZ 80 [x6,LV.str [10]] st fun v2 st3=>bd (aj v2 0) fun v4=>bd (aj v2 1) fun v5=>bd (aj v2 2) fun v6=>LZ 82 [v4] st3 fun v7 st8=>bd (aj v7 0) fun v9=>bd (aj v7 1) fun v10=>nw st8 [LV.str [],LV.nilp,LV.bool false,LV.bool false,LV.bool false,LV.bool false] fun v11 st12=>bd2 (lmk (stV st12 6 v11 v9)) fun _v13 st14=>bd (lun UnOp.not v6) fun v15=>aq v15 (R (LV.tup [LV.nilp,x12,i64 4]) st14)
 (bd (lun UnOp.not v10) fun v16=>aq v16 (R (LV.tup [LV.nilp,x12,i64 4]) st14)
 (bd (ah x10) fun v17=>bd (ad 1 v17) fun v18=>bd (ld1 st14 v18) fun v19=>bd (ldA st14 v11 6) fun v20=>bd2
 (aO st14 1
 (ao (fun i=>some (i*6,6)) (List.replicate 1 [LV.str [],LV.nilp,LV.bool false,LV.bool false,LV.bool false,LV.bool false]).flatten [(0,v20)]))
 fun v21 st22=>ld1 st22 v18=some v19∧
 bd2 (ak st22 6 32 Md.rw v19 v21) fun v23 st24=>LZ 20 [x8,v23] st24 fun v25 st26=>bd (aj v25 0) fun v27=>bd (aj v25 1) fun v28=>P21_18 v5 x8 v27 v28 x12 R st26)))
 (bd (al BinOp.neq x11 (i64 0)) fun v29=>aq v29 (R (LV.tup [LV.nilp,i64 1,x11]) st) (R (LV.tup [x10,i64 0,i64 0]) st)))
 (bd (al BinOp.neq x11 (i64 0)) fun v30=>aq v30 (R (LV.tup [LV.nilp,i64 1,x11]) st) (R (LV.tup [x10,i64 0,i64 0]) st))
theorem p21_10 (x6 x8 x10 x11 x12:LV) {R:LV.RT} {st:aa} (h:w21_10 x6 x8 x10 x11 x12 R st):P21_10 x6 x8 x10 x11 x12 R st:=
 pz Fy Fz h
def w21_18 (x6 x8 x10 x11 x12:LV) (R:LV.RT) (st:aa):Prop:=
 bd (al BinOp.neq x11 (i64 0)) fun v0=>aq v0 (R (LV.tup [LV.nilp,x12,x11]) st) (bd (al BinOp.add x12 (i64 1)) fun v1=>P21_10 x6 x8 x10 x11 v1 R st)
theorem p21_18 (x6 x8 x10 x11 x12:LV) {R:LV.RT} {st:aa} (h:w21_18 x6 x8 x10 x11 x12 R st):P21_18 x6 x8 x10 x11 x12 R st:=
 pz Fy Fz h
def w39 (a0 a1:LV) (R:LV.RT) (st:aa):Prop:=
 nw st [LV.str [],LV.nilp,LV.bool false,LV.bool false,LV.bool false,LV.bool false] fun v0 st1=>bd (eqB BinOp.eql (eN true a0 LV.nilp)) fun v2=>aq v2
 (bd (aP (ao (az [(0,1),(1,1),(2,1),(3,1),(4,1),(5,1)]) [LV.str [],LV.nilp,LV.bool false,LV.bool false,LV.bool false,LV.bool false] [])) fun v3=>bd2 (lmk (stV st1 6 v0 v3)) fun _v4 st5=>bd (ldA st5 v0 6) fun v6=>R (LV.tup [v6,LV.bool false]) st5)
 (bd (ah a0) fun v7=>bd (ad 2 v7) fun v8=>bd (ld1 st1 v8) fun v9=>bd (pU st1 true (some (i64 0)) v9 a1 true) fun v10=>bd (aj v10 0) fun v11=>bd (aj v10 1) fun v12=>bd (lun UnOp.not v12) fun v13=>aq v13
 (bd (aP (ao (az [(0,1),(1,1),(2,1),(3,1),(4,1),(5,1)]) [LV.str [],LV.nilp,LV.bool false,LV.bool false,LV.bool false,LV.bool false] [])) fun v14=>bd2 (lmk (stV st1 6 v0 v14)) fun _v15 st16=>bd (ldA st16 v0 6) fun v17=>R (LV.tup [v17,LV.bool false]) st16)
 (bd (ah a0) fun v18=>bd (ad 1 v18) fun v19=>bd (ld1 st1 v19) fun v20=>bd (aW 6 v20 v11) fun v21=>bd (ldA st1 v21 6) fun v22=>bd2 (lmk (stV st1 6 v0 v22)) fun _v23 st24=>bd (ldA st24 v0 6) fun v25=>R (LV.tup [v25,LV.bool true]) st24))
theorem c39 (a0 a1:LV) {R:LV.RT} {st:aa} (h:w39 a0 a1 R st):LZ 39 [a0,a1] st R:=
 cz [] [] [.cell 4 37,.tmp 5] Tryz.func39 h
def w79 (a0 a1:LV) (R:LV.RT) (st:aa):Prop:=
 bd2 (cL st a0) fun v0 st1=>bd (ad 0 v0) fun v2=>bd (ld1 st1 v2) fun v3=>LZ 142 [v3] st1 fun v4 st5=>bd (lun UnOp.not v4) fun v6=>aq v6 (R (i64 7) st5)
 (bd (ad 0 v0) fun v7=>bd (ld1 st5 v7) fun v8=>bd (bF BinOp.eql v8 a1) fun v9=>aq v9 (R (i64 9) st5)
 (bd (ad 0 v0) fun v10=>bd (ld1 st5 v10) fun v11=>bd (bF BinOp.lss v11 a1) fun v12=>aq v12 (R (i64 4) st5)
 (bd (ad 1 v0) fun v13=>bd (ld1 st5 v13) fun v14=>bd (eqB BinOp.eql (eN true v14 LV.nilp)) fun v15=>aq v15 (R (i64 6) st5)
 (bd (ad 2 v0) fun v16=>bd (ld1 st5 v16) fun v17=>aq v17 (bd (ad 3 v0) fun v18=>bd (ld1 st5 v18) fun v19=>aq v19 (R (i64 1) st5) (R (i64 0) st5))
 (R (i64 0) st5)))))
theorem c79 (a0 a1:LV) {R:LV.RT} {st:aa} (h:w79 a0 a1 R st):LZ 79 [a0,a1] st R:=
 cz [] [] [.tmp 4] Tryz.func79 h
def w81 (a0:LV) (R:LV.RT) (st:aa):Prop:=
 LZ 144 [a0,LV.str [118,101,114,115,105,111,110,32]] st fun v0 st1=>bd (aj v0 0) fun v2=>bd (aj v0 1) fun v3=>LZ 145 [v2] st1 fun v4 st5=>bd (aj v4 0) fun v6=>bd (aj v4 1) fun v7=>aq v3
 (bd (eqB BinOp.eql (pQ true (gG Tryz.prog) v7 LV.nili)) fun v8=>aq v8 (LZ 83 [v6] st5 fun v9 st10=>bd (bF BinOp.eql v9 v2) fun v11=>R (LV.tup [v6,v11]) st10) (R (LV.tup [v6,LV.bool false]) st5))
 (R (LV.tup [v6,LV.bool false]) st5)
theorem c81 (a0:LV) {R:LV.RT} {st:aa} (h:w81 a0 R st):LZ 81 [a0] st R:=
 cz [] [] [.tmp 2,.tmp 3] Tryz.func81 h
def P82_8 (x0 x2 x7 x8 x37 x38 x39:LV) (R:LV.RT) (st:aa):Prop:=LTg Tryz.prog (kindOf false) [.cell 2 37,.tmp 3] (bg Tryz.f82 8) [] R (x0::.aM::x2::(LV.jk 4 (x7::x8::(LV.jk 28 (x37::x38::x39::(LV.jk 27 [])))))) st
def P82_23 (x2 x3:LV) (R:LV.RT) (st:aa):Prop:=LTg Tryz.prog (kindOf false) [.cell 2 37,.tmp 3] (bg Tryz.f82 23) [] R (.aM::.aM::x2::x3::(LV.jk 63 [])) st
def FA:List Nat:=(LV.gx 1 66 [2,7,8,37,38,39])
def FB:List (Nat × List Nat):=[(19,(LV.gx 0 67 [2,3]))]
def w82 (a0:LV) (R:LV.RT) (st:aa):Prop:=
 nw st [LV.str [],LV.nilp,LV.bool false,LV.bool false,LV.bool false,LV.bool false] fun v0 st1=>LZ 146 [a0,LV.str [32]] st1 fun v2 st3=>bd (bq v2) fun v4=>bd (al BinOp.lss v4 (i64 3)) fun v5=>aq v5
 (bd (aP (ao (az [(0,1),(1,1),(2,1),(3,1),(4,1),(5,1)]) [LV.str [],LV.nilp,LV.bool false,LV.bool false,LV.bool false,LV.bool false] [])) fun v6=>bd2 (lmk (stV st3 6 v0 v6)) fun _v7 st8=>bd (ldA st8 v0 6) fun v9=>R (LV.tup [v9,LV.bool false]) st8)
 (bd (aW 1 v2 (i64 0)) fun v10=>bd (ld1 st3 v10) fun v11=>bd (bF BinOp.neq v11 (LV.str [97,116,116,114])) fun v12=>aq v12
 (bd (aP (ao (az [(0,1),(1,1),(2,1),(3,1),(4,1),(5,1)]) [LV.str [],LV.nilp,LV.bool false,LV.bool false,LV.bool false,LV.bool false] [])) fun v13=>bd2 (lmk (stV st3 6 v0 v13)) fun _v14 st15=>bd (ldA st15 v0 6) fun v16=>R (LV.tup [v16,LV.bool false]) st15)
 (bd (aW 1 v2 (i64 2)) fun v17=>bd (ld1 st3 v17) fun v18=>LZ 18 [v18] st3 fun v19 st20=>bd (aj v19 0) fun v21=>bd (aj v19 1) fun _v22=>bd (aj v19 2) fun v23=>bd (aW 1 v2 (i64 1)) fun v24=>bd (ld1 st20 v24) fun v25=>bd
 (aP
 (ao (az [(0,1),(1,1),(2,1),(3,1),(4,1),(5,1)]) [LV.str [],LV.nilp,LV.bool false,LV.bool false,LV.bool false,LV.bool false]
 [(0,v25),(1,v21)]))
 fun v26=>nw st20 [LV.str [],LV.nilp,LV.bool false,LV.bool false,LV.bool false,LV.bool false] fun v27 st28=>bd2 (lmk (stV st28 6 v27 v26)) fun _v29 st30=>bd (ob3 (some (i64 3)) none none fun l h m=>aN st30 1 v2 l h m) fun v31=>bd (bq v31) fun v32=>P82_8 a0 v0 v23 v27 v31 v32 (i64 0) R st30))
theorem c82 (a0:LV) {R:LV.RT} {st:aa} (h:w82 a0 R st):LZ 82 [a0] st R:=
 cz FA FB [.cell 2 37,.tmp 3] Tryz.func82 h
def w82_8 (x0 x2 x7 x8 x37 x38 x39:LV) (R:LV.RT) (st:aa):Prop:=
 bd (al BinOp.lss x39 x38) fun v0=>aq v0
 (bd (aW 1 x37 x39) fun v1=>bd (ld1 st v1) fun v2=>bd (bF BinOp.eql v2 (LV.str [109,117,115,116])) fun v3=>aq v3 (bd (ad 2 x8) fun v4=>bd2 (lmk (stV st 1 v4 (LV.bool true))) fun _v5 st6=>bd (al BinOp.add x39 (i64 1)) fun v7=>P82_8 x0 x2 x7 x8 x37 x38 v7 R st6)
 (bd (bF BinOp.eql v2 (LV.str [111,119,110])) fun v8=>aq v8 (bd (ad 3 x8) fun v9=>bd2 (lmk (stV st 1 v9 (LV.bool true))) fun _v10 st11=>bd (al BinOp.add x39 (i64 1)) fun v12=>P82_8 x0 x2 x7 x8 x37 x38 v12 R st11)
 (bd (bF BinOp.eql v2 (LV.str [104,105,100,101])) fun v13=>aq v13
 (bd (ad 4 x8) fun v14=>bd2 (lmk (stV st 1 v14 (LV.bool true))) fun _v15 st16=>bd (al BinOp.add x39 (i64 1)) fun v17=>P82_8 x0 x2 x7 x8 x37 x38 v17 R st16)
 (bd (bF BinOp.eql v2 (LV.str [110,101,119])) fun v18=>aq v18
 (bd (ad 5 x8) fun v19=>bd2 (lmk (stV st 1 v19 (LV.bool true))) fun _v20 st21=>bd (al BinOp.add x39 (i64 1)) fun v22=>P82_8 x0 x2 x7 x8 x37 x38 v22 R st21)
 (bd (al BinOp.add x39 (i64 1)) fun v23=>P82_8 x0 x2 x7 x8 x37 x38 v23 R st)))))
 (bd (ldA st x8 6) fun v24=>bd (al BinOp.eql x7 (i64 0)) fun v25=>aq v25
 (bd (ldA st x8 6) fun v26=>bd (bF BinOp.add x0 (LV.str [10])) fun v27=>LZ 84 [v26] st fun v28 st29=>ldA st29 x8 6=some v24∧bd (bF BinOp.eql v28 v27) fun v30=>bd2 (lmk (stV st29 6 x2 v24)) fun _v31 st32=>P82_23 x2 v30 R st32)
 (bd2 (lmk (stV st 6 x2 v24)) fun _v33 st34=>P82_23 x2 (LV.bool false) R st34))
theorem p82_8 (x0 x2 x7 x8 x37 x38 x39:LV) {R:LV.RT} {st:aa} (h:w82_8 x0 x2 x7 x8 x37 x38 x39 R st):P82_8 x0 x2 x7 x8 x37 x38 x39 R st:=
 pz FA FB h
def w82_23 (x2 x3:LV) (R:LV.RT) (st:aa):Prop:=
 bd (ldA st x2 6) fun v0=>R (LV.tup [v0,x3]) st
theorem p82_23 (x2 x3:LV) {R:LV.RT} {st:aa} (h:w82_23 x2 x3 R st):P82_23 x2 x3 R st:=
 pz FA FB h
def P84_1 (x2:LV) (R:LV.RT) (st:aa):Prop:=LTg Tryz.prog (kindOf false) [.tmp 2] (bg Tryz.f84 1) [] R (.aM::.aM::x2::(LV.jk 12 [])) st
def GN:List (Nat × List Nat):=[(1,(LV.gx 0 15 [2]))]
def w84 (a0:LV) (R:LV.RT) (st:aa):Prop:=
 bd2 (cL st a0) fun v0 st1=>bd (ad 0 v0) fun v2=>bd (ld1 st1 v2) fun v3=>bd (bF BinOp.add (LV.str [97,116,116,114,32]) v3) fun v4=>bd (bF BinOp.add v4 (LV.str [32])) fun v5=>bd (ad 1 v0) fun v6=>bd (ld1 st1 v6) fun v7=>bd (ldA st1 v0 6) fun v8=>LZ 38 [v7] st1 fun v9 st10=>ldA st10 v0 6=some v8∧
 ld1 st10 v2=some v3∧
 bd (bF BinOp.add v5 v9) fun v11=>LZ 148 [v8] st10 fun v12 st13=>ld1 st13 v2=some v3∧bd (bF BinOp.add v11 v12) fun v14=>bd (bF BinOp.add v14 (LV.str [10])) fun v15=>P84_1 v15 R st13
theorem c84 (a0:LV) {R:LV.RT} {st:aa} (h:w84 a0 R st):LZ 84 [a0] st R:=
 cz [] GN [.tmp 2] Tryz.func84 h
def w84_1 (x2:LV) (R:LV.RT) (st:aa):Prop:=
 R x2 st
theorem p84_1 (x2:LV) {R:LV.RT} {st:aa} (h:w84_1 x2 R st):P84_1 x2 R st:=
 pz [] GN h
def P148_4 (x3 x14 x15:LV) (R:LV.RT) (st:aa):Prop:=LTg Tryz.prog (kindOf false) [.tmp 2] (bg Tryz.f148 4) [] R (LV.jk 3 (x3::(LV.jk 10 (x14::x15::(LV.jk 11 []))))) st
def Ew:List Nat:=(LV.gx 0 27 [3,14,15])
def w148 (a0:LV) (R:LV.RT) (st:aa):Prop:=
 bd2 (cL st a0) fun v0 st1=>bd (ad 2 v0) fun v2=>bd (ld1 st1 v2) fun v3=>bd (ad 3 v0) fun v4=>bd (ld1 st1 v4) fun v5=>bd (ad 4 v0) fun v6=>bd (ld1 st1 v6) fun v7=>bd (ad 5 v0) fun v8=>bd (ld1 st1 v8) fun v9=>bd (aP (ao (fun i=>some (i*1,1)) [LV.bool false,LV.bool false,LV.bool false,LV.bool false] [(0,v3),(1,v5),(2,v7),(3,v9)])) fun v10=>P148_4 (LV.str []) v10 (i64 0) R st1
theorem c148 (a0:LV) {R:LV.RT} {st:aa} (h:w148 a0 R st):LZ 148 [a0] st R:=
 cz Ew [] [.tmp 2] Tryz.func148 h
def w148_4 (x3 x14 x15:LV) (R:LV.RT) (st:aa):Prop:=
 bd (al BinOp.lss x15 (i64 4)) fun v0=>aq v0
 (bd (pW 4 (fun x j=>zC (j*1) x) x14 x15) fun v1=>aq v1
 (bd
 (aP
 (ao (fun i=>some (i*1,1)) [LV.str [],LV.str [],LV.str [],LV.str []]
 [(0,LV.str [32,109,117,115,116]),(1,LV.str [32,111,119,110]),(2,LV.str [32,104,105,100,101]),(3,LV.str [32,110,101,119])]))
 fun v2=>bd (pW 4 (fun x j=>zC (j*1) x) v2 x15) fun v3=>bd (bF BinOp.add x3 v3) fun v4=>bd (al BinOp.add x15 (i64 1)) fun v5=>P148_4 v4 x14 v5 R st)
 (bd (al BinOp.add x15 (i64 1)) fun v6=>P148_4 x3 x14 v6 R st))
 (R x3 st)
theorem p148_4 (x3 x14 x15:LV) {R:LV.RT} {st:aa} (h:w148_4 x3 x14 x15 R st):P148_4 x3 x14 x15 R st:=
 pz Ew [] h
def w78 (a0:LV) (R:LV.RT) (st:aa):Prop:=
 bd (eqB BinOp.eql (sR a0 LV.nils)) fun v0=>aq v0 (R LV.nils st)
 (bd2 (aO st 0 (ao (fun i=>some (i*6,6)) (List.replicate 0 [LV.str [],LV.nilp,LV.bool false,LV.bool false,LV.bool false,LV.bool false]).flatten [])) fun v1 st2=>bd2 (ak st2 6 32 Md.rw v1 a0) fun v3 st4=>R v3 st4)
theorem c78 (a0:LV) {R:LV.RT} {st:aa} (h:w78 a0 R st):LZ 78 [a0] st R:=
 cz [] [] [.tmp 2] Tryz.func78 h
def P41_6 (x3 x25 x26 x27:LV) (R:LV.RT) (st:aa):Prop:=LTg Tryz.prog (kindOf false) [.tmp 4,.tmp 5] (bg Tryz.f41 6) [] R (LV.jk 3 (x3::(LV.jk 21 (x25::x26::x27::(LV.jk 20 []))))) st
def GO:List Nat:=(LV.gx 0 48 [3,25,26,27])
def w41 (a0 a1:LV) (R:LV.RT) (st:aa):Prop:=
 bd2 (cL st a1) fun v0 st1=>bd (ldA st1 v0 1) fun v2=>LZ 110 [a0,v2] st1 fun v3 st4=>bd (aj v3 0) fun v5=>bd (aj v3 1) fun v6=>bd (al BinOp.neq v6 (i64 0)) fun v7=>aq v7 (R (LV.tup [v5,v6]) st4) (bd (ah a0) fun v8=>bd (ad 1 v8) fun v9=>bd (ld1 st4 v9) fun v10=>bd (bq v10) fun v11=>P41_6 v0 v10 v11 (i64 0) R st4)
theorem c41 (a0 a1:LV) {R:LV.RT} {st:aa} (h:w41 a0 a1 R st):LZ 41 [a0,a1] st R:=
 cz GO [] [.tmp 4,.tmp 5] Tryz.func41 h
def w41_6 (x3 x25 x26 x27:LV) (R:LV.RT) (st:aa):Prop:=
 bd (al BinOp.lss x27 x26) fun v0=>aq v0
 (bd (aW 6 x25 x27) fun v1=>bd (ldA st v1 6) fun v2=>nw st [LV.str [],LV.nilp,LV.bool false,LV.bool false,LV.bool false,LV.bool false] fun v3 st4=>bd2 (lmk (stV st4 6 v3 v2)) fun _v5 st6=>bd (ldA st6 x3 1) fun v7=>bd (ad 0 v3) fun v8=>bd (ld1 st6 v8) fun v9=>LZ 50 [v7,v9] st6 fun v10 st11=>bd (aj v10 0) fun v12=>bd (aj v10 1) fun _v13=>nw st11 [LV.nili] fun v14 st15=>bd2 (lmk (stV st15 1 v14 v12)) fun _v16 st17=>bd (ad 2 v3) fun v18=>bd (ld1 st17 v18) fun v19=>aq v19
 (bd (ldA st17 v14 1) fun v20=>LZ 46 [v20] st17 fun v21 st22=>bd (al BinOp.eql v21 (i64 0)) fun v23=>aq v23 (bd (ad 0 v3) fun v24=>bd (ld1 st22 v24) fun v25=>R (LV.tup [v25,i64 8]) st22)
 (bd (al BinOp.add x27 (i64 1)) fun v26=>P41_6 x3 x25 x26 v26 R st22))
 (bd (al BinOp.add x27 (i64 1)) fun v27=>P41_6 x3 x25 x26 v27 R st17))
 (R (LV.tup [LV.str [],i64 0]) st)
theorem p41_6 (x3 x25 x26 x27:LV) {R:LV.RT} {st:aa} (h:w41_6 x3 x25 x26 x27 R st):P41_6 x3 x25 x26 x27 R st:=
 pz GO [] h
def P42_8 (x3 x4 x8 x9 x27 x28 x29:LV) (R:LV.RT) (st:aa):Prop:=LTg Tryz.prog (kindOf false) [.cell 4 57,.tmp 5] (bg Tryz.f42 8) [] R (LV.jk 3 (x3::x4::(LV.jk 3 (x8::x9::(LV.jk 17 (x27::x28::x29::(LV.jk 33 []))))))) st
def P42_15 (x3 x4 x8 x9 x27 x28 x29:LV) (R:LV.RT) (st:aa):Prop:=LTg Tryz.prog (kindOf false) [.cell 4 57,.tmp 5] (bg Tryz.f42 15) [] R (LV.jk 3 (x3::x4::(LV.jk 3 (x8::x9::(LV.jk 17 (x27::x28::x29::(LV.jk 33 []))))))) st
def FC:List Nat:=(LV.gx 0 63 [3,4,8,9,27,28,29])
def FD:List (Nat × List Nat):=[(12,(LV.gx 0 63 [3,4,8,9,27,28,29]))]
def w42 (a0 a1:LV) (R:LV.RT) (st:aa):Prop:=
 bd2 (cL st a1) fun v0 st1=>nw st1 [LV.nili] fun v2 st3=>bd (ldA st3 v0 1) fun v4=>LZ 41 [a0,v4] st3 fun v5 st6=>bd (aj v5 0) fun _v7=>bd (aj v5 1) fun v8=>bd (al BinOp.neq v8 (i64 0)) fun v9=>aq v9 (LZ 66 [] st6 fun v10 st11=>bd2 (lmk (stV st11 1 v2 v10)) fun _v12 st13=>bd (ldA st13 v2 1) fun v14=>R (LV.tup [v14,v8]) st13)
 (bd (ah a0) fun v15=>bd (ad 1 v15) fun v16=>bd (ld1 st6 v16) fun v17=>bd (bq v17) fun v18=>P42_8 v0 v2 LV.nils LV.nils v17 v18 (i64 0) R st6)
theorem c42 (a0 a1:LV) {R:LV.RT} {st:aa} (h:w42 a0 a1 R st):LZ 42 [a0,a1] st R:=
 cz FC FD [.cell 4 57,.tmp 5] Tryz.func42 h
def w42_8 (x3 x4 x8 x9 x27 x28 x29:LV) (R:LV.RT) (st:aa):Prop:=
 bd (al BinOp.lss x29 x28) fun v0=>aq v0
 (bd (aW 6 x27 x29) fun v1=>bd (ldA st v1 6) fun v2=>nw st [LV.str [],LV.nilp,LV.bool false,LV.bool false,LV.bool false,LV.bool false] fun v3 st4=>bd2 (lmk (stV st4 6 v3 v2)) fun _v5 st6=>bd (ldA st6 x3 1) fun v7=>bd (ad 0 v3) fun v8=>bd (ld1 st6 v8) fun v9=>LZ 50 [v7,v9] st6 fun v10 st11=>bd (aj v10 0) fun v12=>bd (aj v10 1) fun _v13=>nw st11 [LV.nili] fun v14 st15=>bd2 (lmk (stV st15 1 v14 v12)) fun _v16 st17=>bd (ad 3 v3) fun v18=>bd (ld1 st17 v18) fun v19=>aq v19
 (bd (ldA st17 v14 1) fun v20=>LZ 46 [v20] st17 fun v21 st22=>bd (al BinOp.eql v21 (i64 0)) fun v23=>aq v23
 (LZ 69 [] st22 fun v24 st25=>bd2 (lmk (stV st25 1 v14 v24)) fun _v26 st27=>bd (ad 0 v3) fun v28=>bd (ld1 st27 v28) fun v29=>bd (ldA st27 v14 1) fun v30=>(bd2 (aO st27 1 (ao (fun i=>some (i*1,1)) (List.replicate 1 [LV.nili]).flatten [(0,v30)])) fun v31 st32=>ld1 st32 v28=some v29∧
 bd2 (aO st32 1 (ao (fun i=>some (i*1,1)) (List.replicate 1 [LV.str []]).flatten [(0,v29)])) fun v33 st34=>ldA st34 v14 1=some v30∧
 bd2 (ak st34 1 16 Md.rw x8 v33) fun v35 st36=>ldA st36 v14 1=some v30∧bd2 (ak st36 1 16 Md.rw x9 v31) fun v37 st38=>P42_15 x3 x4 v35 v37 x27 x28 x29 R st38)∧
 bd2 (aO st27 1 (ao (fun i=>some (i*1,1)) (List.replicate 1 [LV.str []]).flatten [(0,v29)])) fun v39 st40=>ldA st40 v14 1=some v30∧
 (bd2 (aO st40 1 (ao (fun i=>some (i*1,1)) (List.replicate 1 [LV.nili]).flatten [(0,v30)])) fun v41 st42=>ld1 st42 v28=some v29∧
 bd2 (ak st42 1 16 Md.rw x8 v39) fun v43 st44=>ldA st44 v14 1=some v30∧bd2 (ak st44 1 16 Md.rw x9 v41) fun v45 st46=>P42_15 x3 x4 v43 v45 x27 x28 x29 R st46)∧
 bd2 (ak st40 1 16 Md.rw x8 v39) fun v47 st48=>ldA st48 v14 1=some v30∧
 bd2 (aO st48 1 (ao (fun i=>some (i*1,1)) (List.replicate 1 [LV.nili]).flatten [(0,v30)])) fun v49 st50=>ld1 st50 v28=some v29∧bd2 (ak st50 1 16 Md.rw x9 v49) fun v51 st52=>P42_15 x3 x4 v47 v51 x27 x28 x29 R st52)
 (bd (ad 0 v3) fun v53=>bd (ld1 st22 v53) fun v54=>bd (ldA st22 v14 1) fun v55=>(bd2 (aO st22 1 (ao (fun i=>some (i*1,1)) (List.replicate 1 [LV.nili]).flatten [(0,v55)])) fun v56 st57=>ld1 st57 v53=some v54∧
 bd2 (aO st57 1 (ao (fun i=>some (i*1,1)) (List.replicate 1 [LV.str []]).flatten [(0,v54)])) fun v58 st59=>ldA st59 v14 1=some v55∧
 bd2 (ak st59 1 16 Md.rw x8 v58) fun v60 st61=>ldA st61 v14 1=some v55∧bd2 (ak st61 1 16 Md.rw x9 v56) fun v62 st63=>P42_15 x3 x4 v60 v62 x27 x28 x29 R st63)∧
 bd2 (aO st22 1 (ao (fun i=>some (i*1,1)) (List.replicate 1 [LV.str []]).flatten [(0,v54)])) fun v64 st65=>ldA st65 v14 1=some v55∧
 (bd2 (aO st65 1 (ao (fun i=>some (i*1,1)) (List.replicate 1 [LV.nili]).flatten [(0,v55)])) fun v66 st67=>ld1 st67 v53=some v54∧
 bd2 (ak st67 1 16 Md.rw x8 v64) fun v68 st69=>ldA st69 v14 1=some v55∧bd2 (ak st69 1 16 Md.rw x9 v66) fun v70 st71=>P42_15 x3 x4 v68 v70 x27 x28 x29 R st71)∧
 bd2 (ak st65 1 16 Md.rw x8 v64) fun v72 st73=>ldA st73 v14 1=some v55∧
 bd2 (aO st73 1 (ao (fun i=>some (i*1,1)) (List.replicate 1 [LV.nili]).flatten [(0,v55)])) fun v74 st75=>ld1 st75 v53=some v54∧bd2 (ak st75 1 16 Md.rw x9 v74) fun v76 st77=>P42_15 x3 x4 v72 v76 x27 x28 x29 R st77))
 (bd (ad 0 v3) fun v78=>bd (ld1 st17 v78) fun v79=>bd (ldA st17 v14 1) fun v80=>(bd2 (aO st17 1 (ao (fun i=>some (i*1,1)) (List.replicate 1 [LV.nili]).flatten [(0,v80)])) fun v81 st82=>ld1 st82 v78=some v79∧
 bd2 (aO st82 1 (ao (fun i=>some (i*1,1)) (List.replicate 1 [LV.str []]).flatten [(0,v79)])) fun v83 st84=>ldA st84 v14 1=some v80∧
 bd2 (ak st84 1 16 Md.rw x8 v83) fun v85 st86=>ldA st86 v14 1=some v80∧bd2 (ak st86 1 16 Md.rw x9 v81) fun v87 st88=>P42_15 x3 x4 v85 v87 x27 x28 x29 R st88)∧
 bd2 (aO st17 1 (ao (fun i=>some (i*1,1)) (List.replicate 1 [LV.str []]).flatten [(0,v79)])) fun v89 st90=>ldA st90 v14 1=some v80∧
 (bd2 (aO st90 1 (ao (fun i=>some (i*1,1)) (List.replicate 1 [LV.nili]).flatten [(0,v80)])) fun v91 st92=>ld1 st92 v78=some v79∧
 bd2 (ak st92 1 16 Md.rw x8 v89) fun v93 st94=>ldA st94 v14 1=some v80∧bd2 (ak st94 1 16 Md.rw x9 v91) fun v95 st96=>P42_15 x3 x4 v93 v95 x27 x28 x29 R st96)∧
 bd2 (ak st90 1 16 Md.rw x8 v89) fun v97 st98=>ldA st98 v14 1=some v80∧
 bd2 (aO st98 1 (ao (fun i=>some (i*1,1)) (List.replicate 1 [LV.nili]).flatten [(0,v80)])) fun v99 st100=>ld1 st100 v78=some v79∧bd2 (ak st100 1 16 Md.rw x9 v99) fun v101 st102=>P42_15 x3 x4 v97 v101 x27 x28 x29 R st102))
 (LZ 72 [x8,x9] st fun v103 st104=>bd (aj v103 0) fun v105=>bd (aj v103 1) fun v106=>bd2 (lmk (stV st104 1 x4 v105)) fun _v107 st108=>bd (ldA st108 x4 1) fun v109=>R (LV.tup [v109,v106]) st108)
theorem p42_8 (x3 x4 x8 x9 x27 x28 x29:LV) {R:LV.RT} {st:aa} (h:w42_8 x3 x4 x8 x9 x27 x28 x29 R st):P42_8 x3 x4 x8 x9 x27 x28 x29 R st:=
 pz FC FD h
def w42_15 (x3 x4 x8 x9 x27 x28 x29:LV) (R:LV.RT) (st:aa):Prop:=
 bd (al BinOp.add x29 (i64 1)) fun v0=>P42_8 x3 x4 x8 x9 x27 x28 v0 R st
theorem p42_15 (x3 x4 x8 x9 x27 x28 x29:LV) {R:LV.RT} {st:aa} (h:w42_15 x3 x4 x8 x9 x27 x28 x29 R st):P42_15 x3 x4 x8 x9 x27 x28 x29 R st:=
 pz FC FD h
def P110_9 (x0 x6 x21 x22 x23:LV) (R:LV.RT) (st:aa):Prop:=LTg Tryz.prog (kindOf false) [.tmp 4,.tmp 5] (bg Tryz.f110 9) [] R (x0::(LV.jk 5 (x6::(LV.jk 14 (x21::x22::x23::(LV.jk 25 [])))))) st
def Ex:List Nat:=(LV.gx 1 48 [6,21,22,23])
def w110 (a0 a1:LV) (R:LV.RT) (st:aa):Prop:=
 bd2 (cL st a1) fun v0 st1=>bd (eqB BinOp.eql (eN true a0 LV.nilp)) fun v2=>aq v2 (R (LV.tup [LV.str [],i64 11]) st1)
 (bd (ldA st1 v0 1) fun v3=>LZ 46 [v3] st1 fun v4 st5=>bd (al BinOp.neq v4 (i64 7)) fun v6=>aq v6 (R (LV.tup [LV.str [],i64 6]) st5)
 (bd (ldA st5 v0 1) fun v7=>LZ 101 [v7] st5 fun v8 st9=>bd (ldA st9 v0 1) fun v10=>LZ 49 [v10] st9 fun v11 st12=>bd (bq v11) fun v13=>P110_9 a0 v8 v11 v13 (i64 0) R st12))
theorem c110 (a0 a1:LV) {R:LV.RT} {st:aa} (h:w110 a0 a1 R st):LZ 110 [a0,a1] st R:=
 cz Ex [] [.tmp 4,.tmp 5] Tryz.func110 h
def w110_9 (x0 x6 x21 x22 x23:LV) (R:LV.RT) (st:aa):Prop:=
 bd (al BinOp.lss x23 x22) fun v0=>aq v0
 (bd (aW 1 x21 x23) fun v1=>bd (ld1 st v1) fun v2=>LZ 39 [x0,v2] st fun v3 st4=>bd (aj v3 0) fun v5=>bd (aj v3 1) fun v6=>nw st4 [LV.str [],LV.nilp,LV.bool false,LV.bool false,LV.bool false,LV.bool false] fun v7 st8=>bd2 (lmk (stV st8 6 v7 v5)) fun _v9 st10=>bd (lun UnOp.not v6) fun v11=>aq v11 (R (LV.tup [v2,i64 7]) st10)
 (bd (ad 1 v7) fun v12=>bd (ld1 st10 v12) fun v13=>bd (aW 1 x6 x23) fun v14=>bd (ldA st10 v14 1) fun v15=>LZ 53 [v13,v15] st10 fun v16 st17=>bd (lun UnOp.not v16) fun v18=>aq v18 (R (LV.tup [v2,i64 6]) st17) (bd (al BinOp.add x23 (i64 1)) fun v19=>P110_9 x0 x6 x21 x22 v19 R st17)))
 (R (LV.tup [LV.str [],i64 0]) st)
theorem p110_9 (x0 x6 x21 x22 x23:LV) {R:LV.RT} {st:aa} (h:w110_9 x0 x6 x21 x22 x23 R st):P110_9 x0 x6 x21 x22 x23 R st:=
 pz Ex [] h
def P35_5 (x0 x2 x5 x6 x7 x8 x9 x10 x11:LV) (R:LV.RT) (st:aa):Prop:=LTg Tryz.prog (kindOf false) [.cell 2 52,.tmp 3,.tmp 4] (bg Tryz.f35 5) [] R (x0::.aM::x2::.aM::.aM::x5::x6::x7::x8::x9::x10::x11::(LV.jk 129 [])) st
def P35_16 (x0 x2 x5 x6 x7 x8 x9 x10 x11:LV) (R:LV.RT) (st:aa):Prop:=LTg Tryz.prog (kindOf false) [.cell 2 52,.tmp 3,.tmp 4] (bg Tryz.f35 16) [] R (x0::.aM::x2::.aM::.aM::x5::x6::x7::x8::x9::x10::x11::(LV.jk 129 [])) st
def FE:List Nat:=(LV.gx 1 140 [2,5,6,7,8,9,10,11])
def w35 (a0:LV) (R:LV.RT) (st:aa):Prop:=
 nw st [i64 0,LV.nils] fun v0 st1=>nw st1 [i64 0,LV.nils] fun v2 st3=>P35_5 a0 v0 v2 (i64 0) (i64 0) (i64 0) (LV.tup []) (LV.tup []) (LV.tup []) R st3
theorem c35 (a0:LV) {R:LV.RT} {st:aa} (h:w35 a0 R st):LZ 35 [a0] st R:=
 cz FE [] [.cell 2 52,.tmp 3,.tmp 4] Tryz.func35 h
def w35_5 (x0 x2 x5 x6 x7 x8 x9 x10 x11:LV) (R:LV.RT) (st:aa):Prop:=
 bd (bJ x0) fun v0=>bd (al BinOp.lss x8 v0) fun v1=>aq v1
 (bd (cn x0 x8) fun v2=>bd (al BinOp.neq v2 (LV.int IntKind.u8 10)) fun v3=>aq v3 (bd (al BinOp.add x8 (i64 1)) fun v4=>P35_5 x0 x2 x5 x6 x7 v4 x9 x10 x11 R st)
 (bd (ob3 (some x6) (some x8) none fun l h m=>cv x0 l h m) fun v5=>bd (al BinOp.add x8 (i64 1)) fun v6=>bd (al BinOp.add x7 (i64 1)) fun v7=>bd (al BinOp.eql v7 (i64 1)) fun v8=>aq v8 (P35_16 x0 x2 x5 v6 v7 x8 v5 (i64 (-1)) (i64 0) R st)
 (LZ 106 [v5] st fun v9 st10=>bd (aj v9 0) fun v11=>bd (aj v9 1) fun v12=>nw st10 [LV.str [],LV.str [],i64 0,LV.nils,LV.nils,LV.nils,LV.bool false,LV.bool false,LV.bool false,LV.bool false] fun v13 st14=>bd2 (lmk (stV st14 10 v13 v11)) fun _v15 st16=>bd (lun UnOp.not v12) fun v17=>aq v17
 (bd (aP (ao (az [(0,1),(1,1)]) [i64 0,LV.nils] [])) fun v18=>bd2 (lmk (stV st16 2 x2 v18)) fun _v19 st20=>bd (ldA st20 x2 2) fun v21=>R (LV.tup [v21,v7,i64 4]) st20)
 (bd (ad 1 x5) fun v22=>bd (ld1 st16 v22) fun v23=>bd (bq v23) fun v24=>bd (al BinOp.eql v24 (i64 16)) fun v25=>aq v25
 (bd (aP (ao (az [(0,1),(1,1)]) [i64 0,LV.nils] [])) fun v26=>bd2 (lmk (stV st16 2 x2 v26)) fun _v27 st28=>bd (ldA st28 x2 2) fun v29=>R (LV.tup [v29,v7,i64 3]) st28)
 (bd (ad 0 v13) fun v30=>bd (ld1 st16 v30) fun v31=>LZ 19 [v31] st16 fun v32 st33=>bd (lun UnOp.not v32) fun v34=>aq v34
 (bd (aP (ao (az [(0,1),(1,1)]) [i64 0,LV.nils] [])) fun v35=>bd2 (lmk (stV st33 2 x2 v35)) fun _v36 st37=>bd (ldA st37 x2 2) fun v38=>R (LV.tup [v38,v7,i64 7]) st37)
 (bd (al BinOp.gtr v24 (i64 0)) fun v39=>aq v39
 (bd (ad 0 v13) fun v40=>bd (ld1 st33 v40) fun v41=>bd (ad 1 x5) fun v42=>bd (ld1 st33 v42) fun v43=>bd (al BinOp.sub v24 (i64 1)) fun v44=>bd (aW 10 v43 v44) fun v45=>bd (ad 0 v45) fun v46=>bd (ld1 st33 v46) fun v47=>bd (bF BinOp.eql v41 v47) fun v48=>aq v48
 (bd (aP (ao (az [(0,1),(1,1)]) [i64 0,LV.nils] [])) fun v49=>bd2 (lmk (stV st33 2 x2 v49)) fun _v50 st51=>bd (ldA st51 x2 2) fun v52=>R (LV.tup [v52,v7,i64 9]) st51)
 (bd (al BinOp.gtr v24 (i64 0)) fun v53=>aq v53
 (bd (ad 0 v13) fun v54=>bd (ld1 st33 v54) fun v55=>bd (ad 1 x5) fun v56=>bd (ld1 st33 v56) fun v57=>bd (al BinOp.sub v24 (i64 1)) fun v58=>bd (aW 10 v57 v58) fun v59=>bd (ad 0 v59) fun v60=>bd (ld1 st33 v60) fun v61=>bd (bF BinOp.lss v55 v61) fun v62=>aq v62
 (bd (aP (ao (az [(0,1),(1,1)]) [i64 0,LV.nils] [])) fun v63=>bd2 (lmk (stV st33 2 x2 v63)) fun _v64 st65=>bd (ldA st65 x2 2) fun v66=>R (LV.tup [v66,v7,i64 4]) st65)
 (bd (ad 6 v13) fun v67=>bd (ld1 st33 v67) fun v68=>aq v68
 (bd (ad 7 v13) fun v69=>bd (ld1 st33 v69) fun v70=>aq v70
 (bd (aP (ao (az [(0,1),(1,1)]) [i64 0,LV.nils] []))
 fun v71=>bd2 (lmk (stV st33 2 x2 v71)) fun _v72 st73=>bd (ldA st73 x2 2) fun v74=>R (LV.tup [v74,v7,i64 1]) st73)
 (bd (ad 1 x5) fun v75=>bd (ld1 st33 v75) fun v76=>bd (ldA st33 v13 10) fun v77=>bd2
 (aO st33 1
 (ao (fun i=>some (i*10,10))
 (List.replicate 1
 [LV.str [],LV.str [],i64 0,LV.nils,LV.nils,
 LV.nils,LV.bool false,LV.bool false,LV.bool false,
 LV.bool false]).flatten
 [(0,v77)]))
 fun v78 st79=>bd2 (ak st79 10 120 Md.rw v76 v78) fun v80 st81=>bd (ad 1 x5) fun v82=>bd2 (lmk (stV st81 1 v82 v80)) fun _v83 st84=>bd (al BinOp.add x8 (i64 1)) fun v85=>P35_5 x0 x2 x5 v6 v7 v85 v5 x10 x11 R st84))
 (bd (ad 1 x5) fun v86=>bd (ld1 st33 v86) fun v87=>bd (ldA st33 v13 10) fun v88=>bd2
 (aO st33 1
 (ao (fun i=>some (i*10,10))
 (List.replicate 1
 [LV.str [],LV.str [],i64 0,LV.nils,LV.nils,LV.nils,
 LV.bool false,LV.bool false,LV.bool false,LV.bool false]).flatten
 [(0,v88)]))
 fun v89 st90=>bd2 (ak st90 10 120 Md.rw v87 v89) fun v91 st92=>bd (ad 1 x5) fun v93=>bd2 (lmk (stV st92 1 v93 v91)) fun _v94 st95=>bd (al BinOp.add x8 (i64 1)) fun v96=>P35_5 x0 x2 x5 v6 v7 v96 v5 x10 x11 R st95)))
 (bd (ad 6 v13) fun v97=>bd (ld1 st33 v97) fun v98=>aq v98
 (bd (ad 7 v13) fun v99=>bd (ld1 st33 v99) fun v100=>aq v100
 (bd (aP (ao (az [(0,1),(1,1)]) [i64 0,LV.nils] [])) fun v101=>bd2 (lmk (stV st33 2 x2 v101)) fun _v102 st103=>bd (ldA st103 x2 2) fun v104=>R (LV.tup [v104,v7,i64 1]) st103)
 (bd (ad 1 x5) fun v105=>bd (ld1 st33 v105) fun v106=>bd (ldA st33 v13 10) fun v107=>bd2
 (aO st33 1
 (ao (fun i=>some (i*10,10))
 (List.replicate 1
 [LV.str [],LV.str [],i64 0,LV.nils,LV.nils,LV.nils,LV.bool false,
 LV.bool false,LV.bool false,LV.bool false]).flatten
 [(0,v107)]))
 fun v108 st109=>bd2 (ak st109 10 120 Md.rw v106 v108) fun v110 st111=>bd (ad 1 x5) fun v112=>bd2 (lmk (stV st111 1 v112 v110)) fun _v113 st114=>bd (al BinOp.add x8 (i64 1)) fun v115=>P35_5 x0 x2 x5 v6 v7 v115 v5 x10 x11 R st114))
 (bd (ad 1 x5) fun v116=>bd (ld1 st33 v116) fun v117=>bd (ldA st33 v13 10) fun v118=>bd2
 (aO st33 1
 (ao (fun i=>some (i*10,10))
 (List.replicate 1
 [LV.str [],LV.str [],i64 0,LV.nils,LV.nils,LV.nils,LV.bool false,
 LV.bool false,LV.bool false,LV.bool false]).flatten
 [(0,v118)]))
 fun v119 st120=>bd2 (ak st120 10 120 Md.rw v117 v119) fun v121 st122=>bd (ad 1 x5) fun v123=>bd2 (lmk (stV st122 1 v123 v121)) fun _v124 st125=>bd (al BinOp.add x8 (i64 1)) fun v126=>P35_5 x0 x2 x5 v6 v7 v126 v5 x10 x11 R st125))))
 (bd (al BinOp.gtr v24 (i64 0)) fun v127=>aq v127
 (bd (ad 0 v13) fun v128=>bd (ld1 st33 v128) fun v129=>bd (ad 1 x5) fun v130=>bd (ld1 st33 v130) fun v131=>bd (al BinOp.sub v24 (i64 1)) fun v132=>bd (aW 10 v131 v132) fun v133=>bd (ad 0 v133) fun v134=>bd (ld1 st33 v134) fun v135=>bd (bF BinOp.lss v129 v135) fun v136=>aq v136
 (bd (aP (ao (az [(0,1),(1,1)]) [i64 0,LV.nils] [])) fun v137=>bd2 (lmk (stV st33 2 x2 v137)) fun _v138 st139=>bd (ldA st139 x2 2) fun v140=>R (LV.tup [v140,v7,i64 4]) st139)
 (bd (ad 6 v13) fun v141=>bd (ld1 st33 v141) fun v142=>aq v142
 (bd (ad 7 v13) fun v143=>bd (ld1 st33 v143) fun v144=>aq v144
 (bd (aP (ao (az [(0,1),(1,1)]) [i64 0,LV.nils] [])) fun v145=>bd2 (lmk (stV st33 2 x2 v145)) fun _v146 st147=>bd (ldA st147 x2 2) fun v148=>R (LV.tup [v148,v7,i64 1]) st147)
 (bd (ad 1 x5) fun v149=>bd (ld1 st33 v149) fun v150=>bd (ldA st33 v13 10) fun v151=>bd2
 (aO st33 1
 (ao (fun i=>some (i*10,10))
 (List.replicate 1
 [LV.str [],LV.str [],i64 0,LV.nils,LV.nils,LV.nils,LV.bool false,
 LV.bool false,LV.bool false,LV.bool false]).flatten
 [(0,v151)]))
 fun v152 st153=>bd2 (ak st153 10 120 Md.rw v150 v152) fun v154 st155=>bd (ad 1 x5) fun v156=>bd2 (lmk (stV st155 1 v156 v154)) fun _v157 st158=>bd (al BinOp.add x8 (i64 1)) fun v159=>P35_5 x0 x2 x5 v6 v7 v159 v5 x10 x11 R st158))
 (bd (ad 1 x5) fun v160=>bd (ld1 st33 v160) fun v161=>bd (ldA st33 v13 10) fun v162=>bd2
 (aO st33 1
 (ao (fun i=>some (i*10,10))
 (List.replicate 1
 [LV.str [],LV.str [],i64 0,LV.nils,LV.nils,LV.nils,LV.bool false,
 LV.bool false,LV.bool false,LV.bool false]).flatten
 [(0,v162)]))
 fun v163 st164=>bd2 (ak st164 10 120 Md.rw v161 v163) fun v165 st166=>bd (ad 1 x5) fun v167=>bd2 (lmk (stV st166 1 v167 v165)) fun _v168 st169=>bd (al BinOp.add x8 (i64 1)) fun v170=>P35_5 x0 x2 x5 v6 v7 v170 v5 x10 x11 R st169)))
 (bd (ad 6 v13) fun v171=>bd (ld1 st33 v171) fun v172=>aq v172
 (bd (ad 7 v13) fun v173=>bd (ld1 st33 v173) fun v174=>aq v174
 (bd (aP (ao (az [(0,1),(1,1)]) [i64 0,LV.nils] [])) fun v175=>bd2 (lmk (stV st33 2 x2 v175)) fun _v176 st177=>bd (ldA st177 x2 2) fun v178=>R (LV.tup [v178,v7,i64 1]) st177)
 (bd (ad 1 x5) fun v179=>bd (ld1 st33 v179) fun v180=>bd (ldA st33 v13 10) fun v181=>bd2
 (aO st33 1
 (ao (fun i=>some (i*10,10))
 (List.replicate 1
 [LV.str [],LV.str [],i64 0,LV.nils,LV.nils,LV.nils,LV.bool false,LV.bool false,
 LV.bool false,LV.bool false]).flatten
 [(0,v181)]))
 fun v182 st183=>bd2 (ak st183 10 120 Md.rw v180 v182) fun v184 st185=>bd (ad 1 x5) fun v186=>bd2 (lmk (stV st185 1 v186 v184)) fun _v187 st188=>bd (al BinOp.add x8 (i64 1)) fun v189=>P35_5 x0 x2 x5 v6 v7 v189 v5 x10 x11 R st188))
 (bd (ad 1 x5) fun v190=>bd (ld1 st33 v190) fun v191=>bd (ldA st33 v13 10) fun v192=>bd2
 (aO st33 1
 (ao (fun i=>some (i*10,10))
 (List.replicate 1
 [LV.str [],LV.str [],i64 0,LV.nils,LV.nils,LV.nils,LV.bool false,LV.bool false,
 LV.bool false,LV.bool false]).flatten
 [(0,v192)]))
 fun v193 st194=>bd2 (ak st194 10 120 Md.rw v191 v193) fun v195 st196=>bd (ad 1 x5) fun v197=>bd2 (lmk (stV st196 1 v197 v195)) fun _v198 st199=>bd (al BinOp.add x8 (i64 1)) fun v200=>P35_5 x0 x2 x5 v6 v7 v200 v5 x10 x11 R st199)))))))))
 (bd (bJ x0) fun v201=>bd (al BinOp.lss x6 v201) fun v202=>aq v202
 (bd (aP (ao (az [(0,1),(1,1)]) [i64 0,LV.nils] [])) fun v203=>bd (al BinOp.add x7 (i64 1)) fun v204=>bd2 (lmk (stV st 2 x2 v203)) fun _v205 st206=>bd (ldA st206 x2 2) fun v207=>R (LV.tup [v207,v204,i64 4]) st206)
 (bd (al BinOp.eql x7 (i64 0)) fun v208=>aq v208
 (bd (aP (ao (az [(0,1),(1,1)]) [i64 0,LV.nils] [])) fun v209=>bd (al BinOp.add x7 (i64 1)) fun v210=>bd2 (lmk (stV st 2 x2 v209)) fun _v211 st212=>bd (ldA st212 x2 2) fun v213=>R (LV.tup [v213,v210,i64 4]) st212)
 (bd (ldA st x5 2) fun v214=>bd2 (lmk (stV st 2 x2 v214)) fun _v215 st216=>bd (ldA st216 x2 2) fun v217=>R (LV.tup [v217,i64 0,i64 0]) st216)))
theorem p35_5 (x0 x2 x5 x6 x7 x8 x9 x10 x11:LV) {R:LV.RT} {st:aa} (h:w35_5 x0 x2 x5 x6 x7 x8 x9 x10 x11 R st):P35_5 x0 x2 x5 x6 x7 x8 x9 x10 x11 R st:=
 pz FE [] h
def w35_16 (x0 x2 x5 x6 x7 x8 x9 x10 x11:LV) (R:LV.RT) (st:aa):Prop:=
 bd (al BinOp.leq x11 (i64 1000)) fun v0=>aq v0
 (bd (al BinOp.lss x10 (i64 0)) fun v1=>aq v1
 (bd (bJ x9) fun v2=>bd (al BinOp.lss v2 (i64 14)) fun v3=>aq v3
 (LZ 104 [x11] st fun v4 st5=>bd (bF BinOp.add (LV.str [118,101,114,115,105,111,110,32]) v4) fun v6=>bd (bF BinOp.eql x9 v6) fun v7=>aq v7 (bd (al BinOp.add x11 (i64 1)) fun v8=>P35_16 x0 x2 x5 x6 x7 x8 x9 x11 v8 R st5)
 (bd (al BinOp.add x11 (i64 1)) fun v9=>P35_16 x0 x2 x5 x6 x7 x8 x9 x10 v9 R st5))
 (bd (al BinOp.lss x10 (i64 0)) fun v10=>aq v10
 (bd (aP (ao (az [(0,1),(1,1)]) [i64 0,LV.nils] [])) fun v11=>LZ 105 [x9] st fun v12 st13=>bd2 (lmk (stV st13 2 x2 v11)) fun _v14 st15=>bd (ldA st15 x2 2) fun v16=>R (LV.tup [v16,i64 1,v12]) st15)
 (bd (ad 0 x5) fun v17=>bd2 (lmk (stV st 1 v17 x10)) fun _v18 st19=>bd (al BinOp.add x8 (i64 1)) fun v20=>P35_5 x0 x2 x5 x6 x7 v20 x9 x10 x11 R st19)))
 (bd (al BinOp.lss x10 (i64 0)) fun v21=>aq v21
 (bd (aP (ao (az [(0,1),(1,1)]) [i64 0,LV.nils] [])) fun v22=>LZ 105 [x9] st fun v23 st24=>bd2 (lmk (stV st24 2 x2 v22)) fun _v25 st26=>bd (ldA st26 x2 2) fun v27=>R (LV.tup [v27,i64 1,v23]) st26)
 (bd (ad 0 x5) fun v28=>bd2 (lmk (stV st 1 v28 x10)) fun _v29 st30=>bd (al BinOp.add x8 (i64 1)) fun v31=>P35_5 x0 x2 x5 x6 x7 v31 x9 x10 x11 R st30)))
 (bd (al BinOp.lss x10 (i64 0)) fun v32=>aq v32
 (bd (aP (ao (az [(0,1),(1,1)]) [i64 0,LV.nils] [])) fun v33=>LZ 105 [x9] st fun v34 st35=>bd2 (lmk (stV st35 2 x2 v33)) fun _v36 st37=>bd (ldA st37 x2 2) fun v38=>R (LV.tup [v38,i64 1,v34]) st37)
 (bd (ad 0 x5) fun v39=>bd2 (lmk (stV st 1 v39 x10)) fun _v40 st41=>bd (al BinOp.add x8 (i64 1)) fun v42=>P35_5 x0 x2 x5 x6 x7 v42 x9 x10 x11 R st41))
theorem p35_16 (x0 x2 x5 x6 x7 x8 x9 x10 x11:LV) {R:LV.RT} {st:aa} (h:w35_16 x0 x2 x5 x6 x7 x8 x9 x10 x11 R st):P35_16 x0 x2 x5 x6 x7 x8 x9 x10 x11 R st:=
 pz FE [] h
def w19 (a0:LV) (R:LV.RT) (st:aa):Prop:=
 LZ 77 [a0,i64 0] st fun v0 st1=>nw st1 [i64 0,i64 0] fun v2 st3=>bd2 (lmk (stV st3 2 v2 v0)) fun _v4 st5=>bd (ad 1 v2) fun v6=>bd (ld1 st5 v6) fun v7=>bd (al BinOp.eql v7 (i64 0)) fun v8=>aq v8 (bd (ad 0 v2) fun v9=>bd (ld1 st5 v9) fun v10=>bd (bJ a0) fun v11=>bd (al BinOp.eql v10 v11) fun v12=>R v12 st5) (R (LV.bool false) st5)
theorem c19 (a0:LV) {R:LV.RT} {st:aa} (h:w19 a0 R st):LZ 19 [a0] st R:=
 cz [] [] [.tmp 2] Tryz.func19 h
def P105_12 (x3 x5:LV) (R:LV.RT) (st:aa):Prop:=LTg Tryz.prog (kindOf false) [.tmp 2] (bg Tryz.f105 12) [] R (LV.jk 3 (x3::.aM::x5::(LV.jk 59 []))) st
def Ey:List Nat:=(LV.gx 0 65 [3,5])
def w105 (a0:LV) (R:LV.RT) (st:aa):Prop:=
 bd (bJ a0) fun v0=>bd (al BinOp.leq v0 (i64 8)) fun v1=>aq v1 (R (i64 4) st)
 (bd (ob3 none (some (i64 8)) none fun l h m=>cv a0 l h m) fun v2=>bd (bF BinOp.neq v2 (LV.str [118,101,114,115,105,111,110,32])) fun v3=>aq v3 (R (i64 4) st)
 (bd (ob3 (some (i64 8)) none none fun l h m=>cv a0 l h m) fun v4=>bd (cn v4 (i64 0)) fun v5=>bd (al BinOp.eql v5 (LV.int IntKind.u8 45)) fun v6=>aq v6
 (bd (ob3 (some (i64 1)) none none fun l h m=>cv v4 l h m) fun v7=>bd (bJ v7) fun v8=>bd (al BinOp.eql v8 (i64 0)) fun v9=>aq v9 (R (i64 4) st)
 (bd (bJ v7) fun v10=>bd (al BinOp.gtr v10 (i64 19)) fun v11=>aq v11 (R (i64 4) st)
 (bd (bJ v7) fun v12=>bd (al BinOp.eql v12 (i64 19)) fun v13=>aq v13
 (bd (bF BinOp.gtr v7 (LV.str [57,50,50,51,51,55,50,48,51,54,56,53,52,55,55,53,56,48,56])) fun v14=>aq v14 (R (i64 4) st)
 (bd (cn v7 (i64 0)) fun v15=>bd (al BinOp.lss v15 (LV.int IntKind.u8 49)) fun v16=>aq v16 (R (i64 4) st)
 (bd (cn v7 (i64 0)) fun v17=>bd (al BinOp.gtr v17 (LV.int IntKind.u8 57)) fun v18=>aq v18 (R (i64 4) st) (P105_12 v7 (i64 0) R st))))
 (bd (cn v7 (i64 0)) fun v19=>bd (al BinOp.lss v19 (LV.int IntKind.u8 49)) fun v20=>aq v20 (R (i64 4) st)
 (bd (cn v7 (i64 0)) fun v21=>bd (al BinOp.gtr v21 (LV.int IntKind.u8 57)) fun v22=>aq v22 (R (i64 4) st) (P105_12 v7 (i64 0) R st))))))
 (bd (bJ v4) fun v23=>bd (al BinOp.eql v23 (i64 0)) fun v24=>aq v24 (R (i64 4) st)
 (bd (bJ v4) fun v25=>bd (al BinOp.gtr v25 (i64 19)) fun v26=>aq v26 (R (i64 4) st)
 (bd (bJ v4) fun v27=>bd (al BinOp.eql v27 (i64 19)) fun v28=>aq v28
 (bd (bF BinOp.gtr v4 (LV.str [57,50,50,51,51,55,50,48,51,54,56,53,52,55,55,53,56,48,55])) fun v29=>aq v29 (R (i64 4) st)
 (bd (cn v4 (i64 0)) fun v30=>bd (al BinOp.lss v30 (LV.int IntKind.u8 49)) fun v31=>aq v31 (R (i64 4) st)
 (bd (cn v4 (i64 0)) fun v32=>bd (al BinOp.gtr v32 (LV.int IntKind.u8 57)) fun v33=>aq v33 (R (i64 4) st) (P105_12 v4 (i64 0) R st))))
 (bd (cn v4 (i64 0)) fun v34=>bd (al BinOp.lss v34 (LV.int IntKind.u8 49)) fun v35=>aq v35 (R (i64 4) st)
 (bd (cn v4 (i64 0)) fun v36=>bd (al BinOp.gtr v36 (LV.int IntKind.u8 57)) fun v37=>aq v37 (R (i64 4) st) (P105_12 v4 (i64 0) R st))))))))
theorem c105 (a0:LV) {R:LV.RT} {st:aa} (h:w105 a0 R st):LZ 105 [a0] st R:=
 cz Ey [] [.tmp 2] Tryz.func105 h
def w105_12 (x3 x5:LV) (R:LV.RT) (st:aa):Prop:=
 bd (bJ x3) fun v0=>bd (al BinOp.lss x5 v0) fun v1=>aq v1
 (bd (cn x3 x5) fun v2=>bd (al BinOp.lss v2 (LV.int IntKind.u8 48)) fun v3=>aq v3 (R (i64 4) st)
 (bd (cn x3 x5) fun v4=>bd (al BinOp.gtr v4 (LV.int IntKind.u8 57)) fun v5=>aq v5 (R (i64 4) st) (bd (al BinOp.add x5 (i64 1)) fun v6=>P105_12 x3 v6 R st)))
 (R (i64 2) st)
theorem p105_12 (x3 x5:LV) {R:LV.RT} {st:aa} (h:w105_12 x3 x5 R st):P105_12 x3 x5 R st:=
 pz Ey [] h
def P106_4 (x0 x2 x4 x5:LV) (R:LV.RT) (st:aa):Prop:=LTg Tryz.prog (kindOf false) [.cell 2 31,.tmp 3] (bg Tryz.f106 4) [] R (x0::.aM::x2::.aM::x4::x5::(LV.jk 81 [])) st
def P106_7 (x0 x2 x4 x5 x6:LV) (R:LV.RT) (st:aa):Prop:=LTg Tryz.prog (kindOf false) [.cell 2 31,.tmp 3] (bg Tryz.f106 7) [] R (x0::.aM::x2::.aM::x4::x5::x6::(LV.jk 80 [])) st
def P106_17 (x2 x3:LV) (R:LV.RT) (st:aa):Prop:=LTg Tryz.prog (kindOf false) [.cell 2 31,.tmp 3] (bg Tryz.f106 17) [] R (.aM::.aM::x2::x3::(LV.jk 83 [])) st
def yX:List Nat:=(LV.gx 1 86 [2,4,5,6])
def yY:List (Nat × List Nat):=[(4,(LV.gx 1 86 [2,4,5])),(14,(LV.gx 0 87 [2,3]))]
def w106 (a0:LV) (R:LV.RT) (st:aa):Prop:=
 nw st [LV.str [],LV.str [],i64 0,LV.nils,LV.nils,LV.nils,LV.bool false,LV.bool false,LV.bool false,LV.bool false] fun v0 st1=>LZ 160 [a0] st1 fun v2 st3=>bd (bq v2) fun v4=>bd (al BinOp.lss v4 (i64 3)) fun v5=>aq v5
 (bd
 (aP
 (ao (az [(0,1),(1,1),(2,4),(6,1),(7,1),(8,1),(9,1)])
 [LV.str [],LV.str [],i64 0,LV.nils,LV.nils,LV.nils,LV.bool false,LV.bool false,LV.bool false,LV.bool false] []))
 fun v6=>bd2 (lmk (stV st3 10 v0 v6)) fun _v7 st8=>bd (ldA st8 v0 10) fun v9=>R (LV.tup [v9,LV.bool false]) st8)
 (bd (aW 1 v2 (i64 1)) fun v10=>bd (ld1 st3 v10) fun v11=>bd (aW 1 v2 (i64 2)) fun v12=>bd (ld1 st3 v12) fun v13=>bd
 (aP
 (ao (az [(0,1),(1,1),(2,4),(6,1),(7,1),(8,1),(9,1)])
 [LV.str [],LV.str [],i64 0,LV.nils,LV.nils,LV.nils,LV.bool false,LV.bool false,LV.bool false,LV.bool false] [(0,v11),(1,v13)]))
 fun v14=>nw st3 [LV.str [],LV.str [],i64 0,LV.nils,LV.nils,LV.nils,LV.bool false,LV.bool false,LV.bool false,LV.bool false] fun v15 st16=>ld1 st16 v12=some v13∧ld1 st16 v10=some v11∧bd2 (lmk (stV st16 10 v15 v14)) fun _v17 st18=>P106_4 a0 v0 v2 v15 R st18)
theorem c106 (a0:LV) {R:LV.RT} {st:aa} (h:w106 a0 R st):LZ 106 [a0] st R:=
 cz yX yY [.cell 2 31,.tmp 3] Tryz.func106 h
def w106_4 (x0 x2 x4 x5:LV) (R:LV.RT) (st:aa):Prop:=
 P106_7 x0 x2 x4 x5 (i64 3) R st
theorem p106_4 (x0 x2 x4 x5:LV) {R:LV.RT} {st:aa} (h:w106_4 x0 x2 x4 x5 R st):P106_4 x0 x2 x4 x5 R st:=
 pz yX yY h
def w106_7 (x0 x2 x4 x5 x6:LV) (R:LV.RT) (st:aa):Prop:=
 bd (bq x4) fun v0=>bd (al BinOp.lss x6 v0) fun v1=>aq v1
 (bd (ad 6 x5) fun v2=>bd (ld1 st v2) fun v3=>aq v3
 (bd (ad 6 x5) fun v4=>bd2 (lmk (stV st 1 v4 (LV.bool true))) fun _v5 st6=>bd (ad 7 x5) fun v7=>bd (ld1 st6 v7) fun v8=>aq v8
 (bd (ad 7 x5) fun v9=>bd2 (lmk (stV st6 1 v9 (LV.bool true))) fun _v10 st11=>bd (ad 8 x5) fun v12=>bd (ld1 st11 v12) fun v13=>aq v13
 (bd (ad 8 x5) fun v14=>bd2 (lmk (stV st11 1 v14 (LV.bool true))) fun _v15 st16=>bd (ad 9 x5) fun v17=>bd (ld1 st16 v17) fun v18=>aq v18
 (bd (ad 9 x5) fun v19=>bd2 (lmk (stV st16 1 v19 (LV.bool true))) fun _v20 st21=>bd (al BinOp.add x6 (i64 1)) fun v22=>P106_7 x0 x2 x4 x5 v22 R st21)
 (bd (aW 1 x4 x6) fun v23=>bd (ld1 st16 v23) fun v24=>bd (bF BinOp.eql v24 (LV.str [110,101,119])) fun v25=>bd (ad 9 x5) fun v26=>bd2 (lmk (stV st16 1 v26 v25)) fun _v27 st28=>bd (al BinOp.add x6 (i64 1)) fun v29=>P106_7 x0 x2 x4 x5 v29 R st28))
 (bd (aW 1 x4 x6) fun v30=>bd (ld1 st11 v30) fun v31=>bd (bF BinOp.eql v31 (LV.str [104,105,100,101])) fun v32=>bd (ad 8 x5) fun v33=>bd2 (lmk (stV st11 1 v33 v32)) fun _v34 st35=>bd (ad 9 x5) fun v36=>bd (ld1 st35 v36) fun v37=>aq v37
 (bd (ad 9 x5) fun v38=>bd2 (lmk (stV st35 1 v38 (LV.bool true))) fun _v39 st40=>bd (al BinOp.add x6 (i64 1)) fun v41=>P106_7 x0 x2 x4 x5 v41 R st40)
 (bd (aW 1 x4 x6) fun v42=>bd (ld1 st35 v42) fun v43=>bd (bF BinOp.eql v43 (LV.str [110,101,119])) fun v44=>bd (ad 9 x5) fun v45=>bd2 (lmk (stV st35 1 v45 v44)) fun _v46 st47=>bd (al BinOp.add x6 (i64 1)) fun v48=>P106_7 x0 x2 x4 x5 v48 R st47)))
 (bd (aW 1 x4 x6) fun v49=>bd (ld1 st6 v49) fun v50=>bd (bF BinOp.eql v50 (LV.str [111,119,110])) fun v51=>bd (ad 7 x5) fun v52=>bd2 (lmk (stV st6 1 v52 v51)) fun _v53 st54=>bd (ad 8 x5) fun v55=>bd (ld1 st54 v55) fun v56=>aq v56
 (bd (ad 8 x5) fun v57=>bd2 (lmk (stV st54 1 v57 (LV.bool true))) fun _v58 st59=>bd (ad 9 x5) fun v60=>bd (ld1 st59 v60) fun v61=>aq v61
 (bd (ad 9 x5) fun v62=>bd2 (lmk (stV st59 1 v62 (LV.bool true))) fun _v63 st64=>bd (al BinOp.add x6 (i64 1)) fun v65=>P106_7 x0 x2 x4 x5 v65 R st64)
 (bd (aW 1 x4 x6) fun v66=>bd (ld1 st59 v66) fun v67=>bd (bF BinOp.eql v67 (LV.str [110,101,119])) fun v68=>bd (ad 9 x5) fun v69=>bd2 (lmk (stV st59 1 v69 v68)) fun _v70 st71=>bd (al BinOp.add x6 (i64 1)) fun v72=>P106_7 x0 x2 x4 x5 v72 R st71))
 (bd (aW 1 x4 x6) fun v73=>bd (ld1 st54 v73) fun v74=>bd (bF BinOp.eql v74 (LV.str [104,105,100,101])) fun v75=>bd (ad 8 x5) fun v76=>bd2 (lmk (stV st54 1 v76 v75)) fun _v77 st78=>bd (ad 9 x5) fun v79=>bd (ld1 st78 v79) fun v80=>aq v80
 (bd (ad 9 x5) fun v81=>bd2 (lmk (stV st78 1 v81 (LV.bool true))) fun _v82 st83=>bd (al BinOp.add x6 (i64 1)) fun v84=>P106_7 x0 x2 x4 x5 v84 R st83)
 (bd (aW 1 x4 x6) fun v85=>bd (ld1 st78 v85) fun v86=>bd (bF BinOp.eql v86 (LV.str [110,101,119])) fun v87=>bd (ad 9 x5) fun v88=>bd2 (lmk (stV st78 1 v88 v87)) fun _v89 st90=>bd (al BinOp.add x6 (i64 1)) fun v91=>P106_7 x0 x2 x4 x5 v91 R st90))))
 (bd (aW 1 x4 x6) fun v92=>bd (ld1 st v92) fun v93=>bd (bF BinOp.eql v93 (LV.str [109,117,115,116])) fun v94=>bd (ad 6 x5) fun v95=>bd2 (lmk (stV st 1 v95 v94)) fun _v96 st97=>bd (ad 7 x5) fun v98=>bd (ld1 st97 v98) fun v99=>aq v99
 (bd (ad 7 x5) fun v100=>bd2 (lmk (stV st97 1 v100 (LV.bool true))) fun _v101 st102=>bd (ad 8 x5) fun v103=>bd (ld1 st102 v103) fun v104=>aq v104
 (bd (ad 8 x5) fun v105=>bd2 (lmk (stV st102 1 v105 (LV.bool true))) fun _v106 st107=>bd (ad 9 x5) fun v108=>bd (ld1 st107 v108) fun v109=>aq v109
 (bd (ad 9 x5) fun v110=>bd2 (lmk (stV st107 1 v110 (LV.bool true))) fun _v111 st112=>bd (al BinOp.add x6 (i64 1)) fun v113=>P106_7 x0 x2 x4 x5 v113 R st112)
 (bd (aW 1 x4 x6) fun v114=>bd (ld1 st107 v114) fun v115=>bd (bF BinOp.eql v115 (LV.str [110,101,119])) fun v116=>bd (ad 9 x5) fun v117=>bd2 (lmk (stV st107 1 v117 v116)) fun _v118 st119=>bd (al BinOp.add x6 (i64 1)) fun v120=>P106_7 x0 x2 x4 x5 v120 R st119))
 (bd (aW 1 x4 x6) fun v121=>bd (ld1 st102 v121) fun v122=>bd (bF BinOp.eql v122 (LV.str [104,105,100,101])) fun v123=>bd (ad 8 x5) fun v124=>bd2 (lmk (stV st102 1 v124 v123)) fun _v125 st126=>bd (ad 9 x5) fun v127=>bd (ld1 st126 v127) fun v128=>aq v128
 (bd (ad 9 x5) fun v129=>bd2 (lmk (stV st126 1 v129 (LV.bool true))) fun _v130 st131=>bd (al BinOp.add x6 (i64 1)) fun v132=>P106_7 x0 x2 x4 x5 v132 R st131)
 (bd (aW 1 x4 x6) fun v133=>bd (ld1 st126 v133) fun v134=>bd (bF BinOp.eql v134 (LV.str [110,101,119])) fun v135=>bd (ad 9 x5) fun v136=>bd2 (lmk (stV st126 1 v136 v135)) fun _v137 st138=>bd (al BinOp.add x6 (i64 1)) fun v139=>P106_7 x0 x2 x4 x5 v139 R st138)))
 (bd (aW 1 x4 x6) fun v140=>bd (ld1 st97 v140) fun v141=>bd (bF BinOp.eql v141 (LV.str [111,119,110])) fun v142=>bd (ad 7 x5) fun v143=>bd2 (lmk (stV st97 1 v143 v142)) fun _v144 st145=>bd (ad 8 x5) fun v146=>bd (ld1 st145 v146) fun v147=>aq v147
 (bd (ad 8 x5) fun v148=>bd2 (lmk (stV st145 1 v148 (LV.bool true))) fun _v149 st150=>bd (ad 9 x5) fun v151=>bd (ld1 st150 v151) fun v152=>aq v152
 (bd (ad 9 x5) fun v153=>bd2 (lmk (stV st150 1 v153 (LV.bool true))) fun _v154 st155=>bd (al BinOp.add x6 (i64 1)) fun v156=>P106_7 x0 x2 x4 x5 v156 R st155)
 (bd (aW 1 x4 x6) fun v157=>bd (ld1 st150 v157) fun v158=>bd (bF BinOp.eql v158 (LV.str [110,101,119])) fun v159=>bd (ad 9 x5) fun v160=>bd2 (lmk (stV st150 1 v160 v159)) fun _v161 st162=>bd (al BinOp.add x6 (i64 1)) fun v163=>P106_7 x0 x2 x4 x5 v163 R st162))
 (bd (aW 1 x4 x6) fun v164=>bd (ld1 st145 v164) fun v165=>bd (bF BinOp.eql v165 (LV.str [104,105,100,101])) fun v166=>bd (ad 8 x5) fun v167=>bd2 (lmk (stV st145 1 v167 v166)) fun _v168 st169=>bd (ad 9 x5) fun v170=>bd (ld1 st169 v170) fun v171=>aq v171
 (bd (ad 9 x5) fun v172=>bd2 (lmk (stV st169 1 v172 (LV.bool true))) fun _v173 st174=>bd (al BinOp.add x6 (i64 1)) fun v175=>P106_7 x0 x2 x4 x5 v175 R st174)
 (bd (aW 1 x4 x6) fun v176=>bd (ld1 st169 v176) fun v177=>bd (bF BinOp.eql v177 (LV.str [110,101,119])) fun v178=>bd (ad 9 x5) fun v179=>bd2 (lmk (stV st169 1 v179 v178)) fun _v180 st181=>bd (al BinOp.add x6 (i64 1)) fun v182=>P106_7 x0 x2 x4 x5 v182 R st181)))))
 (bd (aW 1 x4 (i64 2)) fun v183=>bd (ld1 st v183) fun v184=>LZ 161 [v184] st fun v185 st186=>bd (aj v185 0) fun v187=>bd (aj v185 1) fun v188=>nw st186 [i64 0,LV.nils,LV.nils,LV.nils] fun v189 st190=>nw st190 [i64 0,i64 0] fun v191 st192=>bd2 (lmk (stV st192 4 v189 v187)) fun _v193 st194=>bd2 (lmk (stV st194 2 v191 v188)) fun _v195 st196=>bd (ldA st196 v189 4) fun v197=>bd (ad 2 x5) fun v198=>bd2 (lmk (stV st196 4 v198 v197)) fun _v199 st200=>bd (ldA st200 x5 10) fun v201=>bd (ad 1 v191) fun v202=>bd (ld1 st200 v202) fun v203=>bd (al BinOp.eql v203 (i64 0)) fun v204=>aq v204
 (bd (ldA st200 x5 10) fun v205=>LZ 162 [v205] st200 fun v206 st207=>ldA st207 x5 10=some v201∧bd (bF BinOp.eql v206 x0) fun v208=>bd2 (lmk (stV st207 10 x2 v201)) fun _v209 st210=>P106_17 x2 v208 R st210)
 (bd2 (lmk (stV st200 10 x2 v201)) fun _v211 st212=>P106_17 x2 (LV.bool false) R st212))
theorem p106_7 (x0 x2 x4 x5 x6:LV) {R:LV.RT} {st:aa} (h:w106_7 x0 x2 x4 x5 x6 R st):P106_7 x0 x2 x4 x5 x6 R st:=
 pz yX yY h
def w106_17 (x2 x3:LV) (R:LV.RT) (st:aa):Prop:=
 bd (ldA st x2 10) fun v0=>R (LV.tup [v0,x3]) st
theorem p106_17 (x2 x3:LV) {R:LV.RT} {st:aa} (h:w106_17 x2 x3 R st):P106_17 x2 x3 R st:=
 pz yX yY h
def P160_5 (x0 x3 x4 x5:LV) (R:LV.RT) (st:aa):Prop:=LTg Tryz.prog (kindOf false) [.tmp 2] (bg Tryz.f160 5) [] R (x0::.aM::.aM::x3::x4::x5::(LV.jk 26 [])) st
def Ez:List Nat:=(LV.gx 1 31 [3,4,5])
def w160 (a0:LV) (R:LV.RT) (st:aa):Prop:=
 P160_5 a0 LV.nils (i64 0) (i64 0) R st
theorem c160 (a0:LV) {R:LV.RT} {st:aa} (h:w160 a0 R st):LZ 160 [a0] st R:=
 cz Ez [] [.tmp 2] Tryz.func160 h
def w160_5 (x0 x3 x4 x5:LV) (R:LV.RT) (st:aa):Prop:=
 bd (bJ x0) fun v0=>bd (al BinOp.leq x5 v0) fun v1=>aq v1
 (bd (bJ x0) fun v2=>bd (al BinOp.eql x5 v2) fun v3=>aq v3
 (bd (ob3 (some x4) (some x5) none fun l h m=>cv x0 l h m) fun v4=>bd2 (aO st 1 (ao (fun i=>some (i*1,1)) (List.replicate 1 [LV.str []]).flatten [(0,v4)])) fun v5 st6=>bd2 (ak st6 1 16 Md.rw x3 v5) fun v7 st8=>bd (al BinOp.add x5 (i64 1)) fun v9=>bd (al BinOp.add x5 (i64 1)) fun v10=>P160_5 x0 v7 v9 v10 R st8)
 (bd (cn x0 x5) fun v11=>bd (al BinOp.eql v11 (LV.int IntKind.u8 32)) fun v12=>aq v12
 (bd (ob3 (some x4) (some x5) none fun l h m=>cv x0 l h m) fun v13=>bd2 (aO st 1 (ao (fun i=>some (i*1,1)) (List.replicate 1 [LV.str []]).flatten [(0,v13)])) fun v14 st15=>bd2 (ak st15 1 16 Md.rw x3 v14) fun v16 st17=>bd (al BinOp.add x5 (i64 1)) fun v18=>bd (al BinOp.add x5 (i64 1)) fun v19=>P160_5 x0 v16 v18 v19 R st17)
 (bd (al BinOp.add x5 (i64 1)) fun v20=>P160_5 x0 x3 x4 v20 R st)))
 (R x3 st)
theorem p160_5 (x0 x3 x4 x5:LV) {R:LV.RT} {st:aa} (h:w160_5 x0 x3 x4 x5 R st):P160_5 x0 x3 x4 x5 R st:=
 pz Ez [] h
def w162 (a0:LV) (R:LV.RT) (st:aa):Prop:=
 bd2 (cL st a0) fun v0 st1=>bd (ad 0 v0) fun v2=>bd (ld1 st1 v2) fun v3=>bd (bF BinOp.add (LV.str [97,116,116,114,32]) v3) fun v4=>bd (bF BinOp.add v4 (LV.str [32])) fun v5=>bd (ad 1 v0) fun v6=>bd (ld1 st1 v6) fun v7=>bd (bF BinOp.add v5 v7) fun v8=>bd (ad 6 v0) fun v9=>bd (ld1 st1 v9) fun v10=>aq v10
 (bd (bF BinOp.add v8 (LV.str [32,109,117,115,116])) fun v11=>bd (ad 7 v0) fun v12=>bd (ld1 st1 v12) fun v13=>aq v13
 (bd (bF BinOp.add v11 (LV.str [32,111,119,110])) fun v14=>bd (ad 8 v0) fun v15=>bd (ld1 st1 v15) fun v16=>aq v16
 (bd (bF BinOp.add v14 (LV.str [32,104,105,100,101])) fun v17=>bd (ad 9 v0) fun v18=>bd (ld1 st1 v18) fun v19=>aq v19 (bd (bF BinOp.add v17 (LV.str [32,110,101,119])) fun v20=>R v20 st1) (R v17 st1))
 (bd (ad 9 v0) fun v21=>bd (ld1 st1 v21) fun v22=>aq v22 (bd (bF BinOp.add v14 (LV.str [32,110,101,119])) fun v23=>R v23 st1) (R v14 st1)))
 (bd (ad 8 v0) fun v24=>bd (ld1 st1 v24) fun v25=>aq v25
 (bd (bF BinOp.add v11 (LV.str [32,104,105,100,101])) fun v26=>bd (ad 9 v0) fun v27=>bd (ld1 st1 v27) fun v28=>aq v28 (bd (bF BinOp.add v26 (LV.str [32,110,101,119])) fun v29=>R v29 st1) (R v26 st1))
 (bd (ad 9 v0) fun v30=>bd (ld1 st1 v30) fun v31=>aq v31 (bd (bF BinOp.add v11 (LV.str [32,110,101,119])) fun v32=>R v32 st1) (R v11 st1))))
 (bd (ad 7 v0) fun v33=>bd (ld1 st1 v33) fun v34=>aq v34
 (bd (bF BinOp.add v8 (LV.str [32,111,119,110])) fun v35=>bd (ad 8 v0) fun v36=>bd (ld1 st1 v36) fun v37=>aq v37
 (bd (bF BinOp.add v35 (LV.str [32,104,105,100,101])) fun v38=>bd (ad 9 v0) fun v39=>bd (ld1 st1 v39) fun v40=>aq v40 (bd (bF BinOp.add v38 (LV.str [32,110,101,119])) fun v41=>R v41 st1) (R v38 st1))
 (bd (ad 9 v0) fun v42=>bd (ld1 st1 v42) fun v43=>aq v43 (bd (bF BinOp.add v35 (LV.str [32,110,101,119])) fun v44=>R v44 st1) (R v35 st1)))
 (bd (ad 8 v0) fun v45=>bd (ld1 st1 v45) fun v46=>aq v46
 (bd (bF BinOp.add v8 (LV.str [32,104,105,100,101])) fun v47=>bd (ad 9 v0) fun v48=>bd (ld1 st1 v48) fun v49=>aq v49 (bd (bF BinOp.add v47 (LV.str [32,110,101,119])) fun v50=>R v50 st1) (R v47 st1))
 (bd (ad 9 v0) fun v51=>bd (ld1 st1 v51) fun v52=>aq v52 (bd (bF BinOp.add v8 (LV.str [32,110,101,119])) fun v53=>R v53 st1) (R v8 st1))))
theorem c162 (a0:LV) {R:LV.RT} {st:aa} (h:w162 a0 R st):LZ 162 [a0] st R:=
 cz [] [] [.tmp 2] Tryz.func162 h
def P104_7 (x0 x3:LV) (R:LV.RT) (st:aa):Prop:=LTg Tryz.prog (kindOf false) [.tmp 2] (bg Tryz.f104 7) [] R (x0::.aM::.aM::x3::(LV.jk 25 [])) st
def EA:List Nat:=(LV.gx 1 28 [3])
def w104 (a0:LV) (R:LV.RT) (st:aa):Prop:=
 bd (al BinOp.lss a0 (i64 0)) fun v0=>aq v0
 (bd (al BinOp.eql a0 (i64 (-9223372036854775808))) fun v1=>aq v1 (R (LV.str [45,57,50,50,51,51,55,50,48,51,54,56,53,52,55,55,53,56,48,56]) st)
 (bd (lun UnOp.neg a0) fun v2=>LZ 104 [v2] st fun v3 st4=>bd (bF BinOp.add (LV.str [45]) v3) fun v5=>R v5 st4))
 (P104_7 a0 (LV.str []) R st)
theorem c104 (a0:LV) {R:LV.RT} {st:aa} (h:w104 a0 R st):LZ 104 [a0] st R:=
 cz EA [] [.tmp 2] Tryz.func104 h
def w104_7 (x0 x3:LV) (R:LV.RT) (st:aa):Prop:=
 bd (bF BinOp.eql x3 (LV.str [])) fun v0=>aq v0
 (bd (al BinOp.rem x0 (i64 10)) fun v1=>bd (al BinOp.add (i64 48) v1) fun v2=>bd (fJ IntKind.u8 v2) fun v3=>bd2 (aO st 1 (ao (fun i=>some (i*1,1)) (List.replicate 1 [LV.int IntKind.u8 0]).flatten [(0,v3)])) fun v4 st5=>bd (eE st5 v4) fun v6=>bd (bF BinOp.add v6 x3) fun v7=>bd (al BinOp.quo x0 (i64 10)) fun v8=>P104_7 v8 v7 R st5)
 (bd (al BinOp.gtr x0 (i64 0)) fun v9=>aq v9
 (bd (al BinOp.rem x0 (i64 10)) fun v10=>bd (al BinOp.add (i64 48) v10) fun v11=>bd (fJ IntKind.u8 v11) fun v12=>bd2 (aO st 1 (ao (fun i=>some (i*1,1)) (List.replicate 1 [LV.int IntKind.u8 0]).flatten [(0,v12)])) fun v13 st14=>bd (eE st14 v13) fun v15=>bd (bF BinOp.add v15 x3) fun v16=>bd (al BinOp.quo x0 (i64 10)) fun v17=>P104_7 v17 v16 R st14)
 (R x3 st))
theorem p104_7 (x0 x3:LV) {R:LV.RT} {st:aa} (h:w104_7 x0 x3 R st):P104_7 x0 x3 R st:=
 pz EA [] h
def w26 (a0:LV) (R:LV.RT) (st:aa):Prop:=
 nw st [i64 0,LV.nils] fun v0 st1=>bd (bJ a0) fun v2=>bd (al BinOp.gtr v2 (i64 600)) fun v3=>aq v3
 (bd (aP (ao (az [(0,1),(1,1)]) [i64 0,LV.nils] [])) fun v4=>bd2 (lmk (stV st1 2 v0 v4)) fun _v5 st6=>bd (ldA st6 v0 2) fun v7=>R (LV.tup [LV.nilp,v7,i64 1]) st6)
 (LZ 35 [a0] st1 fun v8 st9=>bd (aj v8 0) fun v10=>bd (aj v8 1) fun _v11=>bd (aj v8 2) fun v12=>nw st9 [i64 0,LV.nils] fun v13 st14=>bd2 (lmk (stV st14 2 v13 v10)) fun _v15 st16=>LZ 21 [a0] st16 fun v17 st18=>bd (aj v17 0) fun v19=>bd (aj v17 1) fun _v20=>bd (aj v17 2) fun v21=>bd (al BinOp.neq v12 (i64 0)) fun v22=>aq v22 (bd (ldA st18 v13 2) fun v23=>bd2 (lmk (stV st18 2 v0 v23)) fun _v24 st25=>bd (ldA st25 v0 2) fun v26=>R (LV.tup [LV.nilp,v26,i64 1]) st25)
 (bd (al BinOp.neq v21 (i64 0)) fun v27=>aq v27
 (bd (ldA st18 v13 2) fun v28=>bd2 (lmk (stV st18 2 v0 v28)) fun _v29 st30=>bd (ldA st30 v0 2) fun v31=>R (LV.tup [LV.nilp,v31,i64 1]) st30)
 (bd (ldA st18 v13 2) fun v32=>bd2 (lmk (stV st18 2 v0 v32)) fun _v33 st34=>bd (ldA st34 v0 2) fun v35=>R (LV.tup [v19,v35,i64 0]) st34)))
theorem c26 (a0:LV) {R:LV.RT} {st:aa} (h:w26 a0 R st):LZ 26 [a0] st R:=
 cz [] [] [.tmp 2,.cell 3 52,.tmp 4] Tryz.func26 h
end Go.Proofs.YtknegckgmklnhaaGreatDoor
