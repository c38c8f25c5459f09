/- Parts of the proof. -/
import Derived.Test.YtknegckgmklnhaaGreatDoorVbW
namespace Go.Proofs.YtknegckgmklnhaaGreatDoor
open Go Go.CP
set_option maxRecDepth 100000
def P20_10 (x6 x7 x28 x29 x30:LV) (R:LV.RT) (st:aa):Prop:=LTg Tryz.prog (kindOf false) [.tmp 4,.tmp 5] (aZ Tryz.f20 10) [] R (LV.jk 6 (x6::x7::(LV.jk 20 (x28::x29::x30::(LV.jk 23 []))))) st
def CW:List Nat:=(LV.gx 0 54 [6,7,28,29,30])
def w20 (a0 a1:LV) (R:LV.RT) (st:aa):Prop:=
 bd (aj BinOp.lss a0 (i64 0)) fun v0=>ak v0 (R (LV.tup [LV.nilp,i64 2]) st)
 (bd (aj BinOp.gtr a0 (i64 1000)) fun v1=>ak v1 (R (LV.tup [LV.nilp,i64 2]) st)
 (bd (bD a1) fun v2=>bd (aj BinOp.gtr v2 (i64 16)) fun v3=>ak v3 (R (LV.tup [LV.nilp,i64 3]) st)
 (LZ 78 [a1] st fun v4 st5=>Bf st5 fun v6 st7=>bd (aN (av (ax [(0,1),(1,1),(2,1)]) [i64 0,LV.nils,LV.nilm] [(0,a0),(1,v4),(2,v6)])) fun v8=>bd2 (ej st7 v8) fun v9 st10=>bd (bD a1) fun v11=>P20_10 v9 (LV.str []) a1 v11 (i64 0) R st10)))
theorem c20 (a0 a1:LV) {R:LV.RT} {st:aa} (h:w20 a0 a1 R st):LZ 20 [a0,a1] st R:=
 cz CW [] [.tmp 4,.tmp 5] Tryz.func20 h
def w20_10 (x6 x7 x28 x29 x30:LV) (R:LV.RT) (st:aa):Prop:=
 bd (aj BinOp.lss x30 x29) fun v0=>ak v0
 (bd (bh 6 x28 x30) fun v1=>bd (ldA st v1 6) fun v2=>nw st [LV.str [],LV.nilp,LV.bool false,LV.bool false,LV.bool false,LV.bool false] fun v3 st4=>bd2 (lmk (stV st4 6 v3 v2)) fun _v5 st6=>bd (ldA st6 v3 6) fun v7=>LZ 79 [v7,x7] st6 fun v8 st9=>bd (aj BinOp.neq v8 (i64 0)) fun v10=>ak v10 (R (LV.tup [LV.nilp,v8]) st9)
 (bd (af x6) fun v11=>bd (ad 2 v11) fun v12=>bd (ld1 st9 v12) fun v13=>bd (ad 0 v3) fun v14=>bd (ld1 st9 v14) fun v15=>bd (ad 0 v3) fun v16=>bd (ld1 st9 v16) fun v17=>bd2 (oC st9 true (some (i64 0)) v13 v15) fun v18 st19=>ld1 st19 v16=some v17∧
 bd (ar v18 1) fun v20=>bd2 (lmk (fW st19 v13 v20 x30)) fun _v21 st22=>ld1 st22 v16=some v17∧bd (aj BinOp.add x30 (i64 1)) fun v23=>P20_10 x6 v17 x28 x29 v23 R st22))
 (R (LV.tup [x6,i64 0]) st)
theorem p20_10 (x6 x7 x28 x29 x30:LV) {R:LV.RT} {st:aa} (h:w20_10 x6 x7 x28 x29 x30 R st):P20_10 x6 x7 x28 x29 x30 R st:=
 pz CW [] h
def P22_6 (x3 x18 x19 x20:LV) (R:LV.RT) (st:aa):Prop:=LTg Tryz.prog (kindOf false) [.tmp 2] (aZ Tryz.f22 6) [] R (LV.jk 3 (x3::(LV.jk 14 (x18::x19::x20::(LV.jk 9 []))))) st
def CX:List Nat:=(LV.gx 0 30 [3,18,19,20])
def w22 (a0:LV) (R:LV.RT) (st:aa):Prop:=
 bd (eqB BinOp.eql (cV true a0 LV.nilp)) fun v0=>ak v0 (R (LV.str []) st)
 (bd (af a0) fun v1=>bd (ad 0 v1) fun v2=>bd (ld1 st v2) fun v3=>LZ 83 [v3] st fun v4 st5=>bd (bg BinOp.add (LV.str [118,101,114,115,105,111,110,32]) v4) fun v6=>bd (bg BinOp.add v6 (LV.str [10])) fun v7=>bd (af a0) fun v8=>bd (ad 1 v8) fun v9=>bd (ld1 st5 v9) fun v10=>bd (bD v10) fun v11=>P22_6 v7 v10 v11 (i64 0) R st5)
theorem c22 (a0:LV) {R:LV.RT} {st:aa} (h:w22 a0 R st):LZ 22 [a0] st R:=
 cz CX [] [.tmp 2] Tryz.func22 h
def w22_6 (x3 x18 x19 x20:LV) (R:LV.RT) (st:aa):Prop:=
 bd (aj BinOp.lss x20 x19) fun v0=>ak v0
 (bd (bh 6 x18 x20) fun v1=>bd (ldA st v1 6) fun v2=>nw st [LV.str [],LV.nilp,LV.bool false,LV.bool false,LV.bool false,LV.bool false] fun v3 st4=>bd2 (lmk (stV st4 6 v3 v2)) fun _v5 st6=>bd (ldA st6 v3 6) fun v7=>LZ 84 [v7] st6 fun v8 st9=>bd (bg BinOp.add x3 v8) fun v10=>bd (aj BinOp.add x20 (i64 1)) fun v11=>P22_6 v10 x18 x19 v11 R st9)
 (R x3 st)
theorem p22_6 (x3 x18 x19 x20:LV) {R:LV.RT} {st:aa} (h:w22_6 x3 x18 x19 x20 R st):P22_6 x3 x18 x19 x20 R st:=
 pz CX [] h
def w23 (a0 a1:LV) (R:LV.RT) (st:aa):Prop:=
 bd (eqB BinOp.eql (cV true a0 LV.nilp)) fun v0=>bd (eqB BinOp.eql (cV true a1 LV.nilp)) fun v1=>bd (je BinOp.eql v0 v1) fun v2=>ak v2 (LZ 22 [a0] st fun v3 st4=>LZ 22 [a1] st4 fun v5 st6=>bd (bg BinOp.eql v3 v5) fun v7=>R v7 st6) (R (LV.bool false) st)
theorem c23 (a0 a1:LV) {R:LV.RT} {st:aa} (h:w23 a0 a1 R st):LZ 23 [a0,a1] st R:=
 cz [] [] [.tmp 4] Tryz.func23 h
def w36 (a0:LV) (R:LV.RT) (st:aa):Prop:=
 bd (eqB BinOp.eql (cV true a0 LV.nilp)) fun v0=>ak v0 (R LV.nils st) (bd (af a0) fun v1=>bd (ad 1 v1) fun v2=>bd (ld1 st v2) fun v3=>LZ 78 [v3] st fun v4 st5=>R v4 st5)
theorem c36 (a0:LV) {R:LV.RT} {st:aa} (h:w36 a0 R st):LZ 36 [a0] st R:=
 cz [] [] [.tmp 2] Tryz.func36 h
def w37 (a0:LV) (R:LV.RT) (st:aa):Prop:=
 bd (eqB BinOp.eql (cV true a0 LV.nilp)) fun v0=>ak v0 (R (i64 0) st) (bd (af a0) fun v1=>bd (ad 0 v1) fun v2=>bd (ld1 st v2) fun v3=>R v3 st)
theorem c37 (a0:LV) {R:LV.RT} {st:aa} (h:w37 a0 R st):LZ 37 [a0] st R:=
 cz [] [] [.tmp 2] Tryz.func37 h
def P21_10 (x6 x8 x10 x11 x12:LV) (R:LV.RT) (st:aa):Prop:=LTg Tryz.prog (kindOf false) [.tmp 2,.tmp 3,.tmp 4] (aZ Tryz.f21 10) [] R (LV.jk 6 (x6::.aQ::x8::.aQ::x10::x11::x12::(LV.jk 74 []))) st
def P21_18 (x6 x8 x10 x11 x12:LV) (R:LV.RT) (st:aa):Prop:=LTg Tryz.prog (kindOf false) [.tmp 2,.tmp 3,.tmp 4] (aZ Tryz.f21 18) [] R (LV.jk 6 (x6::.aQ::x8::.aQ::x10::x11::x12::(LV.jk 74 []))) st
def Ca:List Nat:=(LV.gx 0 87 [6,8,10,11,12])
def Cb:List (Nat × List Nat):=[(16,(LV.gx 0 87 [6,8,10,11,12]))]
def w21 (a0:LV) (R:LV.RT) (st:aa):Prop:=
 bd (bo a0) fun v0=>bd (aj BinOp.gtr v0 (i64 1048576)) fun v1=>ak v1 (R (LV.tup [LV.nilp,i64 0,i64 3]) st)
 (LZ 80 [a0,LV.str [10]] st fun v2 st3=>bd (ar v2 0) fun v4=>bd (ar v2 1) fun v5=>bd (ar v2 2) fun v6=>LZ 81 [v4] st3 fun v7 st8=>bd (ar v7 0) fun v9=>bd (ar v7 1) fun v10=>bd (lun UnOp.not v6) fun v11=>ak v11 (R (LV.tup [LV.nilp,i64 1,i64 4]) st8)
 (bd (lun UnOp.not v10) fun v12=>ak v12 (R (LV.tup [LV.nilp,i64 1,i64 4]) st8)
 (LZ 20 [v9,LV.nils] st8 fun v13 st14=>bd (ar v13 0) fun v15=>bd (ar v13 1) fun v16=>P21_10 v5 v9 v15 v16 (i64 2) R st14)))
theorem c21 (a0:LV) {R:LV.RT} {st:aa} (h:w21 a0 R st):LZ 21 [a0] st R:=
 cz Ca Cb [.tmp 2,.tmp 3,.tmp 4] Tryz.func21 h
def w21_10 (x6 x8 x10 x11 x12:LV) (R:LV.RT) (st:aa):Prop:=
 bd (aj BinOp.eql x11 (i64 0)) fun v0=>ak v0
 (bd (bg BinOp.neq x6 (LV.str [])) fun v1=>ak v1
 (LZ 80 [x6,LV.str [10]] st fun v2 st3=>bd (ar v2 0) fun v4=>bd (ar v2 1) fun v5=>bd (ar v2 2) fun v6=>LZ 82 [v4] st3 fun v7 st8=>bd (ar v7 0) fun v9=>bd (ar v7 1) fun v10=>nw st8 [LV.str [],LV.nilp,LV.bool false,LV.bool false,LV.bool false,LV.bool false] fun v11 st12=>bd2 (lmk (stV st12 6 v11 v9)) fun _v13 st14=>bd (lun UnOp.not v6) fun v15=>ak v15 (R (LV.tup [LV.nilp,x12,i64 4]) st14)
 (bd (lun UnOp.not v10) fun v16=>ak v16 (R (LV.tup [LV.nilp,x12,i64 4]) st14)
 (bd (af x10) fun v17=>bd (ad 1 v17) fun v18=>bd (ld1 st14 v18) fun v19=>bd (ldA st14 v11 6) fun v20=>bd2
 (bJ st14 1
 (av (fun i=>some (i*6,6)) (List.replicate 1 [LV.str [],LV.nilp,LV.bool false,LV.bool false,LV.bool false,LV.bool false]).flatten [(0,v20)]))
 fun v21 st22=>ld1 st22 v18=some v19∧
 bd2 (aP st22 6 32 Md.rw v19 v21) fun v23 st24=>LZ 20 [x8,v23] st24 fun v25 st26=>bd (ar v25 0) fun v27=>bd (ar v25 1) fun v28=>P21_18 v5 x8 v27 v28 x12 R st26)))
 (bd (aj BinOp.neq x11 (i64 0)) fun v29=>ak v29 (R (LV.tup [LV.nilp,i64 1,x11]) st) (R (LV.tup [x10,i64 0,i64 0]) st)))
 (bd (aj BinOp.neq x11 (i64 0)) fun v30=>ak v30 (R (LV.tup [LV.nilp,i64 1,x11]) st) (R (LV.tup [x10,i64 0,i64 0]) st))
theorem p21_10 (x6 x8 x10 x11 x12:LV) {R:LV.RT} {st:aa} (h:w21_10 x6 x8 x10 x11 x12 R st):P21_10 x6 x8 x10 x11 x12 R st:=
 pz Ca Cb h
def w21_18 (x6 x8 x10 x11 x12:LV) (R:LV.RT) (st:aa):Prop:=
 bd (aj BinOp.neq x11 (i64 0)) fun v0=>ak v0 (R (LV.tup [LV.nilp,x12,x11]) st) (bd (aj BinOp.add x12 (i64 1)) fun v1=>P21_10 x6 x8 x10 x11 v1 R st)
theorem p21_18 (x6 x8 x10 x11 x12:LV) {R:LV.RT} {st:aa} (h:w21_18 x6 x8 x10 x11 x12 R st):P21_18 x6 x8 x10 x11 x12 R st:=
 pz Ca Cb h
def w39 (a0 a1:LV) (R:LV.RT) (st:aa):Prop:=
 nw st [LV.str [],LV.nilp,LV.bool false,LV.bool false,LV.bool false,LV.bool false] fun v0 st1=>bd (eqB BinOp.eql (cV true a0 LV.nilp)) fun v2=>ak v2
 (bd (aN (av (ax [(0,1),(1,1),(2,1),(3,1),(4,1),(5,1)]) [LV.str [],LV.nilp,LV.bool false,LV.bool false,LV.bool false,LV.bool false] [])) fun v3=>bd2 (lmk (stV st1 6 v0 v3)) fun _v4 st5=>bd (ldA st5 v0 6) fun v6=>R (LV.tup [v6,LV.bool false]) st5)
 (bd (af a0) fun v7=>bd (ad 2 v7) fun v8=>bd (ld1 st1 v8) fun v9=>bd (Av st1 true (some (i64 0)) v9 a1 true) fun v10=>bd (ar v10 0) fun v11=>bd (ar v10 1) fun v12=>bd (lun UnOp.not v12) fun v13=>ak v13
 (bd (aN (av (ax [(0,1),(1,1),(2,1),(3,1),(4,1),(5,1)]) [LV.str [],LV.nilp,LV.bool false,LV.bool false,LV.bool false,LV.bool false] [])) fun v14=>bd2 (lmk (stV st1 6 v0 v14)) fun _v15 st16=>bd (ldA st16 v0 6) fun v17=>R (LV.tup [v17,LV.bool false]) st16)
 (bd (af a0) fun v18=>bd (ad 1 v18) fun v19=>bd (ld1 st1 v19) fun v20=>bd (bh 6 v20 v11) fun v21=>bd (ldA st1 v21 6) fun v22=>bd2 (lmk (stV st1 6 v0 v22)) fun _v23 st24=>bd (ldA st24 v0 6) fun v25=>R (LV.tup [v25,LV.bool true]) st24))
theorem c39 (a0 a1:LV) {R:LV.RT} {st:aa} (h:w39 a0 a1 R st):LZ 39 [a0,a1] st R:=
 cz [] [] [.cell 4 37,.tmp 5] Tryz.func39 h
def w79 (a0 a1:LV) (R:LV.RT) (st:aa):Prop:=
 bd2 (ej st a0) fun v0 st1=>bd (ad 0 v0) fun v2=>bd (ld1 st1 v2) fun v3=>LZ 142 [v3] st1 fun v4 st5=>bd (lun UnOp.not v4) fun v6=>ak v6 (R (i64 7) st5)
 (bd (ad 0 v0) fun v7=>bd (ld1 st5 v7) fun v8=>bd (bg BinOp.eql v8 a1) fun v9=>ak v9 (R (i64 9) st5)
 (bd (ad 0 v0) fun v10=>bd (ld1 st5 v10) fun v11=>bd (bg BinOp.lss v11 a1) fun v12=>ak v12 (R (i64 4) st5)
 (bd (ad 1 v0) fun v13=>bd (ld1 st5 v13) fun v14=>bd (eqB BinOp.eql (cV true v14 LV.nilp)) fun v15=>ak v15 (R (i64 6) st5)
 (bd (ad 2 v0) fun v16=>bd (ld1 st5 v16) fun v17=>ak v17 (bd (ad 3 v0) fun v18=>bd (ld1 st5 v18) fun v19=>ak v19 (R (i64 1) st5) (R (i64 0) st5))
 (R (i64 0) st5)))))
theorem c79 (a0 a1:LV) {R:LV.RT} {st:aa} (h:w79 a0 a1 R st):LZ 79 [a0,a1] st R:=
 cz [] [] [.tmp 4] Tryz.func79 h
def w81 (a0:LV) (R:LV.RT) (st:aa):Prop:=
 LZ 144 [a0,LV.str [118,101,114,115,105,111,110,32]] st fun v0 st1=>bd (ar v0 0) fun v2=>bd (ar v0 1) fun v3=>LZ 145 [v2] st1 fun v4 st5=>bd (ar v4 0) fun v6=>bd (ar v4 1) fun v7=>ak v3
 (bd (eqB BinOp.eql (yu true (su Tryz.prog) v7 LV.nili)) fun v8=>ak v8 (LZ 83 [v6] st5 fun v9 st10=>bd (bg BinOp.eql v9 v2) fun v11=>R (LV.tup [v6,v11]) st10) (R (LV.tup [v6,LV.bool false]) st5))
 (R (LV.tup [v6,LV.bool false]) st5)
theorem c81 (a0:LV) {R:LV.RT} {st:aa} (h:w81 a0 R st):LZ 81 [a0] st R:=
 cz [] [] [.tmp 2,.tmp 3] Tryz.func81 h
def P82_8 (x0 x2 x7 x8 x37 x38 x39:LV) (R:LV.RT) (st:aa):Prop:=LTg Tryz.prog (kindOf false) [.cell 2 37,.tmp 3] (aZ Tryz.f82 8) [] R (x0::.aQ::x2::(LV.jk 4 (x7::x8::(LV.jk 28 (x37::x38::x39::(LV.jk 27 [])))))) st
def P82_23 (x2 x3:LV) (R:LV.RT) (st:aa):Prop:=LTg Tryz.prog (kindOf false) [.cell 2 37,.tmp 3] (aZ Tryz.f82 23) [] R (.aQ::.aQ::x2::x3::(LV.jk 63 [])) st
def Cc:List Nat:=(LV.gx 1 66 [2,7,8,37,38,39])
def Cd:List (Nat × List Nat):=[(19,(LV.gx 0 67 [2,3]))]
def w82 (a0:LV) (R:LV.RT) (st:aa):Prop:=
 nw st [LV.str [],LV.nilp,LV.bool false,LV.bool false,LV.bool false,LV.bool false] fun v0 st1=>LZ 146 [a0,LV.str [32]] st1 fun v2 st3=>bd (bD v2) fun v4=>bd (aj BinOp.lss v4 (i64 3)) fun v5=>ak v5
 (bd (aN (av (ax [(0,1),(1,1),(2,1),(3,1),(4,1),(5,1)]) [LV.str [],LV.nilp,LV.bool false,LV.bool false,LV.bool false,LV.bool false] [])) fun v6=>bd2 (lmk (stV st3 6 v0 v6)) fun _v7 st8=>bd (ldA st8 v0 6) fun v9=>R (LV.tup [v9,LV.bool false]) st8)
 (bd (bh 1 v2 (i64 0)) fun v10=>bd (ld1 st3 v10) fun v11=>bd (bg BinOp.neq v11 (LV.str [97,116,116,114])) fun v12=>ak v12
 (bd (aN (av (ax [(0,1),(1,1),(2,1),(3,1),(4,1),(5,1)]) [LV.str [],LV.nilp,LV.bool false,LV.bool false,LV.bool false,LV.bool false] [])) fun v13=>bd2 (lmk (stV st3 6 v0 v13)) fun _v14 st15=>bd (ldA st15 v0 6) fun v16=>R (LV.tup [v16,LV.bool false]) st15)
 (bd (bh 1 v2 (i64 2)) fun v17=>bd (ld1 st3 v17) fun v18=>LZ 18 [v18] st3 fun v19 st20=>bd (ar v19 0) fun v21=>bd (ar v19 1) fun _v22=>bd (ar v19 2) fun v23=>bd (bh 1 v2 (i64 1)) fun v24=>bd (ld1 st20 v24) fun v25=>bd
 (aN
 (av (ax [(0,1),(1,1),(2,1),(3,1),(4,1),(5,1)]) [LV.str [],LV.nilp,LV.bool false,LV.bool false,LV.bool false,LV.bool false]
 [(0,v25),(1,v21)]))
 fun v26=>nw st20 [LV.str [],LV.nilp,LV.bool false,LV.bool false,LV.bool false,LV.bool false] fun v27 st28=>bd2 (lmk (stV st28 6 v27 v26)) fun _v29 st30=>bd (ob3 (some (i64 3)) none none fun l h m=>gR st30 1 v2 l h m) fun v31=>bd (bD v31) fun v32=>P82_8 a0 v0 v23 v27 v31 v32 (i64 0) R st30))
theorem c82 (a0:LV) {R:LV.RT} {st:aa} (h:w82 a0 R st):LZ 82 [a0] st R:=
 cz Cc Cd [.cell 2 37,.tmp 3] Tryz.func82 h
def w82_8 (x0 x2 x7 x8 x37 x38 x39:LV) (R:LV.RT) (st:aa):Prop:=
 bd (aj BinOp.lss x39 x38) fun v0=>ak v0
 (bd (bh 1 x37 x39) fun v1=>bd (ld1 st v1) fun v2=>bd (bg BinOp.eql v2 (LV.str [109,117,115,116])) fun v3=>ak v3 (bd (ad 2 x8) fun v4=>bd2 (lmk (stV st 1 v4 (LV.bool true))) fun _v5 st6=>bd (aj BinOp.add x39 (i64 1)) fun v7=>P82_8 x0 x2 x7 x8 x37 x38 v7 R st6)
 (bd (bg BinOp.eql v2 (LV.str [111,119,110])) fun v8=>ak v8 (bd (ad 3 x8) fun v9=>bd2 (lmk (stV st 1 v9 (LV.bool true))) fun _v10 st11=>bd (aj BinOp.add x39 (i64 1)) fun v12=>P82_8 x0 x2 x7 x8 x37 x38 v12 R st11)
 (bd (bg BinOp.eql v2 (LV.str [104,105,100,101])) fun v13=>ak v13
 (bd (ad 4 x8) fun v14=>bd2 (lmk (stV st 1 v14 (LV.bool true))) fun _v15 st16=>bd (aj BinOp.add x39 (i64 1)) fun v17=>P82_8 x0 x2 x7 x8 x37 x38 v17 R st16)
 (bd (bg BinOp.eql v2 (LV.str [110,101,119])) fun v18=>ak v18
 (bd (ad 5 x8) fun v19=>bd2 (lmk (stV st 1 v19 (LV.bool true))) fun _v20 st21=>bd (aj BinOp.add x39 (i64 1)) fun v22=>P82_8 x0 x2 x7 x8 x37 x38 v22 R st21)
 (bd (aj BinOp.add x39 (i64 1)) fun v23=>P82_8 x0 x2 x7 x8 x37 x38 v23 R st)))))
 (bd (ldA st x8 6) fun v24=>bd (aj BinOp.eql x7 (i64 0)) fun v25=>ak v25
 (bd (ldA st x8 6) fun v26=>bd (bg BinOp.add x0 (LV.str [10])) fun v27=>LZ 84 [v26] st fun v28 st29=>ldA st29 x8 6=some v24∧bd (bg BinOp.eql v28 v27) fun v30=>bd2 (lmk (stV st29 6 x2 v24)) fun _v31 st32=>P82_23 x2 v30 R st32)
 (bd2 (lmk (stV st 6 x2 v24)) fun _v33 st34=>P82_23 x2 (LV.bool false) R st34))
theorem p82_8 (x0 x2 x7 x8 x37 x38 x39:LV) {R:LV.RT} {st:aa} (h:w82_8 x0 x2 x7 x8 x37 x38 x39 R st):P82_8 x0 x2 x7 x8 x37 x38 x39 R st:=
 pz Cc Cd h
def w82_23 (x2 x3:LV) (R:LV.RT) (st:aa):Prop:=
 bd (ldA st x2 6) fun v0=>R (LV.tup [v0,x3]) st
theorem p82_23 (x2 x3:LV) {R:LV.RT} {st:aa} (h:w82_23 x2 x3 R st):P82_23 x2 x3 R st:=
 pz Cc Cd h
def P84_1 (x2:LV) (R:LV.RT) (st:aa):Prop:=LTg Tryz.prog (kindOf false) [.tmp 2] (aZ Tryz.f84 1) [] R (.aQ::.aQ::x2::(LV.jk 12 [])) st
def CY:List (Nat × List Nat):=[(1,(LV.gx 0 15 [2]))]
def w84 (a0:LV) (R:LV.RT) (st:aa):Prop:=
 bd2 (ej st a0) fun v0 st1=>bd (ad 0 v0) fun v2=>bd (ld1 st1 v2) fun v3=>bd (bg BinOp.add (LV.str [97,116,116,114,32]) v3) fun v4=>bd (bg BinOp.add v4 (LV.str [32])) fun v5=>bd (ad 1 v0) fun v6=>bd (ld1 st1 v6) fun v7=>bd (ldA st1 v0 6) fun v8=>LZ 38 [v7] st1 fun v9 st10=>ldA st10 v0 6=some v8∧
 ld1 st10 v2=some v3∧
 bd (bg BinOp.add v5 v9) fun v11=>LZ 148 [v8] st10 fun v12 st13=>ld1 st13 v2=some v3∧bd (bg BinOp.add v11 v12) fun v14=>bd (bg BinOp.add v14 (LV.str [10])) fun v15=>P84_1 v15 R st13
theorem c84 (a0:LV) {R:LV.RT} {st:aa} (h:w84 a0 R st):LZ 84 [a0] st R:=
 cz [] CY [.tmp 2] Tryz.func84 h
def w84_1 (x2:LV) (R:LV.RT) (st:aa):Prop:=
 R x2 st
theorem p84_1 (x2:LV) {R:LV.RT} {st:aa} (h:w84_1 x2 R st):P84_1 x2 R st:=
 pz [] CY h
def P148_4 (x3 x14 x15:LV) (R:LV.RT) (st:aa):Prop:=LTg Tryz.prog (kindOf false) [.tmp 2] (aZ Tryz.f148 4) [] R (LV.jk 3 (x3::(LV.jk 10 (x14::x15::(LV.jk 11 []))))) st
def Bz:List Nat:=(LV.gx 0 27 [3,14,15])
def w148 (a0:LV) (R:LV.RT) (st:aa):Prop:=
 bd2 (ej st a0) fun v0 st1=>bd (ad 2 v0) fun v2=>bd (ld1 st1 v2) fun v3=>bd (ad 3 v0) fun v4=>bd (ld1 st1 v4) fun v5=>bd (ad 4 v0) fun v6=>bd (ld1 st1 v6) fun v7=>bd (ad 5 v0) fun v8=>bd (ld1 st1 v8) fun v9=>bd (aN (av (fun i=>some (i*1,1)) [LV.bool false,LV.bool false,LV.bool false,LV.bool false] [(0,v3),(1,v5),(2,v7),(3,v9)])) fun v10=>P148_4 (LV.str []) v10 (i64 0) R st1
theorem c148 (a0:LV) {R:LV.RT} {st:aa} (h:w148 a0 R st):LZ 148 [a0] st R:=
 cz Bz [] [.tmp 2] Tryz.func148 h
def w148_4 (x3 x14 x15:LV) (R:LV.RT) (st:aa):Prop:=
 bd (aj BinOp.lss x15 (i64 4)) fun v0=>ak v0
 (bd (oE 4 (fun x j=>xl (j*1) x) x14 x15) fun v1=>ak v1
 (bd
 (aN
 (av (fun i=>some (i*1,1)) [LV.str [],LV.str [],LV.str [],LV.str []]
 [(0,LV.str [32,109,117,115,116]),(1,LV.str [32,111,119,110]),(2,LV.str [32,104,105,100,101]),(3,LV.str [32,110,101,119])]))
 fun v2=>bd (oE 4 (fun x j=>xl (j*1) x) v2 x15) fun v3=>bd (bg BinOp.add x3 v3) fun v4=>bd (aj BinOp.add x15 (i64 1)) fun v5=>P148_4 v4 x14 v5 R st)
 (bd (aj BinOp.add x15 (i64 1)) fun v6=>P148_4 x3 x14 v6 R st))
 (R x3 st)
theorem p148_4 (x3 x14 x15:LV) {R:LV.RT} {st:aa} (h:w148_4 x3 x14 x15 R st):P148_4 x3 x14 x15 R st:=
 pz Bz [] h
def w78 (a0:LV) (R:LV.RT) (st:aa):Prop:=
 bd (eqB BinOp.eql (xk a0 LV.nils)) fun v0=>ak v0 (R LV.nils st)
 (bd2 (bJ st 0 (av (fun i=>some (i*6,6)) (List.replicate 0 [LV.str [],LV.nilp,LV.bool false,LV.bool false,LV.bool false,LV.bool false]).flatten [])) fun v1 st2=>bd2 (aP st2 6 32 Md.rw v1 a0) fun v3 st4=>R v3 st4)
theorem c78 (a0:LV) {R:LV.RT} {st:aa} (h:w78 a0 R st):LZ 78 [a0] st R:=
 cz [] [] [.tmp 2] Tryz.func78 h
def P35_5 (x0 x2 x5 x6 x7 x8 x9 x10 x11:LV) (R:LV.RT) (st:aa):Prop:=LTg Tryz.prog (kindOf false) [.cell 2 52,.tmp 3,.tmp 4] (aZ Tryz.f35 5) [] R (x0::.aQ::x2::.aQ::.aQ::x5::x6::x7::x8::x9::x10::x11::(LV.jk 129 [])) st
def P35_16 (x0 x2 x5 x6 x7 x8 x9 x10 x11:LV) (R:LV.RT) (st:aa):Prop:=LTg Tryz.prog (kindOf false) [.cell 2 52,.tmp 3,.tmp 4] (aZ Tryz.f35 16) [] R (x0::.aQ::x2::.aQ::.aQ::x5::x6::x7::x8::x9::x10::x11::(LV.jk 129 [])) st
def Ce:List Nat:=(LV.gx 1 140 [2,5,6,7,8,9,10,11])
def w35 (a0:LV) (R:LV.RT) (st:aa):Prop:=
 nw st [i64 0,LV.nils] fun v0 st1=>nw st1 [i64 0,LV.nils] fun v2 st3=>P35_5 a0 v0 v2 (i64 0) (i64 0) (i64 0) (LV.tup []) (LV.tup []) (LV.tup []) R st3
theorem c35 (a0:LV) {R:LV.RT} {st:aa} (h:w35 a0 R st):LZ 35 [a0] st R:=
 cz Ce [] [.cell 2 52,.tmp 3,.tmp 4] Tryz.func35 h
def w35_5 (x0 x2 x5 x6 x7 x8 x9 x10 x11:LV) (R:LV.RT) (st:aa):Prop:=
 bd (bo x0) fun v0=>bd (aj BinOp.lss x8 v0) fun v1=>ak v1
 (bd (cn x0 x8) fun v2=>bd (aj BinOp.neq v2 (LV.int IntKind.u8 10)) fun v3=>ak v3 (bd (aj BinOp.add x8 (i64 1)) fun v4=>P35_5 x0 x2 x5 x6 x7 v4 x9 x10 x11 R st)
 (bd (ob3 (some x6) (some x8) none fun l h m=>cq x0 l h m) fun v5=>bd (aj BinOp.add x8 (i64 1)) fun v6=>bd (aj BinOp.add x7 (i64 1)) fun v7=>bd (aj BinOp.eql v7 (i64 1)) fun v8=>ak v8 (P35_16 x0 x2 x5 v6 v7 x8 v5 (i64 (-1)) (i64 0) R st)
 (LZ 106 [v5] st fun v9 st10=>bd (ar v9 0) fun v11=>bd (ar v9 1) fun v12=>nw st10 [LV.str [],LV.str [],i64 0,LV.nils,LV.nils,LV.nils,LV.bool false,LV.bool false,LV.bool false,LV.bool false] fun v13 st14=>bd2 (lmk (stV st14 10 v13 v11)) fun _v15 st16=>bd (lun UnOp.not v12) fun v17=>ak v17
 (bd (aN (av (ax [(0,1),(1,1)]) [i64 0,LV.nils] [])) fun v18=>bd2 (lmk (stV st16 2 x2 v18)) fun _v19 st20=>bd (ldA st20 x2 2) fun v21=>R (LV.tup [v21,v7,i64 4]) st20)
 (bd (ad 1 x5) fun v22=>bd (ld1 st16 v22) fun v23=>bd (bD v23) fun v24=>bd (aj BinOp.eql v24 (i64 16)) fun v25=>ak v25
 (bd (aN (av (ax [(0,1),(1,1)]) [i64 0,LV.nils] [])) fun v26=>bd2 (lmk (stV st16 2 x2 v26)) fun _v27 st28=>bd (ldA st28 x2 2) fun v29=>R (LV.tup [v29,v7,i64 3]) st28)
 (bd (ad 0 v13) fun v30=>bd (ld1 st16 v30) fun v31=>LZ 19 [v31] st16 fun v32 st33=>bd (lun UnOp.not v32) fun v34=>ak v34
 (bd (aN (av (ax [(0,1),(1,1)]) [i64 0,LV.nils] [])) fun v35=>bd2 (lmk (stV st33 2 x2 v35)) fun _v36 st37=>bd (ldA st37 x2 2) fun v38=>R (LV.tup [v38,v7,i64 7]) st37)
 (bd (aj BinOp.gtr v24 (i64 0)) fun v39=>ak v39
 (bd (ad 0 v13) fun v40=>bd (ld1 st33 v40) fun v41=>bd (ad 1 x5) fun v42=>bd (ld1 st33 v42) fun v43=>bd (aj BinOp.sub v24 (i64 1)) fun v44=>bd (bh 10 v43 v44) fun v45=>bd (ad 0 v45) fun v46=>bd (ld1 st33 v46) fun v47=>bd (bg BinOp.eql v41 v47) fun v48=>ak v48
 (bd (aN (av (ax [(0,1),(1,1)]) [i64 0,LV.nils] [])) fun v49=>bd2 (lmk (stV st33 2 x2 v49)) fun _v50 st51=>bd (ldA st51 x2 2) fun v52=>R (LV.tup [v52,v7,i64 9]) st51)
 (bd (aj BinOp.gtr v24 (i64 0)) fun v53=>ak v53
 (bd (ad 0 v13) fun v54=>bd (ld1 st33 v54) fun v55=>bd (ad 1 x5) fun v56=>bd (ld1 st33 v56) fun v57=>bd (aj BinOp.sub v24 (i64 1)) fun v58=>bd (bh 10 v57 v58) fun v59=>bd (ad 0 v59) fun v60=>bd (ld1 st33 v60) fun v61=>bd (bg BinOp.lss v55 v61) fun v62=>ak v62
 (bd (aN (av (ax [(0,1),(1,1)]) [i64 0,LV.nils] [])) fun v63=>bd2 (lmk (stV st33 2 x2 v63)) fun _v64 st65=>bd (ldA st65 x2 2) fun v66=>R (LV.tup [v66,v7,i64 4]) st65)
 (bd (ad 6 v13) fun v67=>bd (ld1 st33 v67) fun v68=>ak v68
 (bd (ad 7 v13) fun v69=>bd (ld1 st33 v69) fun v70=>ak v70
 (bd (aN (av (ax [(0,1),(1,1)]) [i64 0,LV.nils] []))
 fun v71=>bd2 (lmk (stV st33 2 x2 v71)) fun _v72 st73=>bd (ldA st73 x2 2) fun v74=>R (LV.tup [v74,v7,i64 1]) st73)
 (bd (ad 1 x5) fun v75=>bd (ld1 st33 v75) fun v76=>bd (ldA st33 v13 10) fun v77=>bd2
 (bJ st33 1
 (av (fun i=>some (i*10,10))
 (List.replicate 1
 [LV.str [],LV.str [],i64 0,LV.nils,LV.nils,
 LV.nils,LV.bool false,LV.bool false,LV.bool false,
 LV.bool false]).flatten
 [(0,v77)]))
 fun v78 st79=>bd2 (aP st79 10 120 Md.rw v76 v78) fun v80 st81=>bd (ad 1 x5) fun v82=>bd2 (lmk (stV st81 1 v82 v80)) fun _v83 st84=>bd (aj BinOp.add x8 (i64 1)) fun v85=>P35_5 x0 x2 x5 v6 v7 v85 v5 x10 x11 R st84))
 (bd (ad 1 x5) fun v86=>bd (ld1 st33 v86) fun v87=>bd (ldA st33 v13 10) fun v88=>bd2
 (bJ st33 1
 (av (fun i=>some (i*10,10))
 (List.replicate 1
 [LV.str [],LV.str [],i64 0,LV.nils,LV.nils,LV.nils,
 LV.bool false,LV.bool false,LV.bool false,LV.bool false]).flatten
 [(0,v88)]))
 fun v89 st90=>bd2 (aP st90 10 120 Md.rw v87 v89) fun v91 st92=>bd (ad 1 x5) fun v93=>bd2 (lmk (stV st92 1 v93 v91)) fun _v94 st95=>bd (aj BinOp.add x8 (i64 1)) fun v96=>P35_5 x0 x2 x5 v6 v7 v96 v5 x10 x11 R st95)))
 (bd (ad 6 v13) fun v97=>bd (ld1 st33 v97) fun v98=>ak v98
 (bd (ad 7 v13) fun v99=>bd (ld1 st33 v99) fun v100=>ak v100
 (bd (aN (av (ax [(0,1),(1,1)]) [i64 0,LV.nils] [])) fun v101=>bd2 (lmk (stV st33 2 x2 v101)) fun _v102 st103=>bd (ldA st103 x2 2) fun v104=>R (LV.tup [v104,v7,i64 1]) st103)
 (bd (ad 1 x5) fun v105=>bd (ld1 st33 v105) fun v106=>bd (ldA st33 v13 10) fun v107=>bd2
 (bJ st33 1
 (av (fun i=>some (i*10,10))
 (List.replicate 1
 [LV.str [],LV.str [],i64 0,LV.nils,LV.nils,LV.nils,LV.bool false,
 LV.bool false,LV.bool false,LV.bool false]).flatten
 [(0,v107)]))
 fun v108 st109=>bd2 (aP st109 10 120 Md.rw v106 v108) fun v110 st111=>bd (ad 1 x5) fun v112=>bd2 (lmk (stV st111 1 v112 v110)) fun _v113 st114=>bd (aj BinOp.add x8 (i64 1)) fun v115=>P35_5 x0 x2 x5 v6 v7 v115 v5 x10 x11 R st114))
 (bd (ad 1 x5) fun v116=>bd (ld1 st33 v116) fun v117=>bd (ldA st33 v13 10) fun v118=>bd2
 (bJ st33 1
 (av (fun i=>some (i*10,10))
 (List.replicate 1
 [LV.str [],LV.str [],i64 0,LV.nils,LV.nils,LV.nils,LV.bool false,
 LV.bool false,LV.bool false,LV.bool false]).flatten
 [(0,v118)]))
 fun v119 st120=>bd2 (aP st120 10 120 Md.rw v117 v119) fun v121 st122=>bd (ad 1 x5) fun v123=>bd2 (lmk (stV st122 1 v123 v121)) fun _v124 st125=>bd (aj BinOp.add x8 (i64 1)) fun v126=>P35_5 x0 x2 x5 v6 v7 v126 v5 x10 x11 R st125))))
 (bd (aj BinOp.gtr v24 (i64 0)) fun v127=>ak v127
 (bd (ad 0 v13) fun v128=>bd (ld1 st33 v128) fun v129=>bd (ad 1 x5) fun v130=>bd (ld1 st33 v130) fun v131=>bd (aj BinOp.sub v24 (i64 1)) fun v132=>bd (bh 10 v131 v132) fun v133=>bd (ad 0 v133) fun v134=>bd (ld1 st33 v134) fun v135=>bd (bg BinOp.lss v129 v135) fun v136=>ak v136
 (bd (aN (av (ax [(0,1),(1,1)]) [i64 0,LV.nils] [])) fun v137=>bd2 (lmk (stV st33 2 x2 v137)) fun _v138 st139=>bd (ldA st139 x2 2) fun v140=>R (LV.tup [v140,v7,i64 4]) st139)
 (bd (ad 6 v13) fun v141=>bd (ld1 st33 v141) fun v142=>ak v142
 (bd (ad 7 v13) fun v143=>bd (ld1 st33 v143) fun v144=>ak v144
 (bd (aN (av (ax [(0,1),(1,1)]) [i64 0,LV.nils] [])) fun v145=>bd2 (lmk (stV st33 2 x2 v145)) fun _v146 st147=>bd (ldA st147 x2 2) fun v148=>R (LV.tup [v148,v7,i64 1]) st147)
 (bd (ad 1 x5) fun v149=>bd (ld1 st33 v149) fun v150=>bd (ldA st33 v13 10) fun v151=>bd2
 (bJ st33 1
 (av (fun i=>some (i*10,10))
 (List.replicate 1
 [LV.str [],LV.str [],i64 0,LV.nils,LV.nils,LV.nils,LV.bool false,
 LV.bool false,LV.bool false,LV.bool false]).flatten
 [(0,v151)]))
 fun v152 st153=>bd2 (aP st153 10 120 Md.rw v150 v152) fun v154 st155=>bd (ad 1 x5) fun v156=>bd2 (lmk (stV st155 1 v156 v154)) fun _v157 st158=>bd (aj BinOp.add x8 (i64 1)) fun v159=>P35_5 x0 x2 x5 v6 v7 v159 v5 x10 x11 R st158))
 (bd (ad 1 x5) fun v160=>bd (ld1 st33 v160) fun v161=>bd (ldA st33 v13 10) fun v162=>bd2
 (bJ st33 1
 (av (fun i=>some (i*10,10))
 (List.replicate 1
 [LV.str [],LV.str [],i64 0,LV.nils,LV.nils,LV.nils,LV.bool false,
 LV.bool false,LV.bool false,LV.bool false]).flatten
 [(0,v162)]))
 fun v163 st164=>bd2 (aP st164 10 120 Md.rw v161 v163) fun v165 st166=>bd (ad 1 x5) fun v167=>bd2 (lmk (stV st166 1 v167 v165)) fun _v168 st169=>bd (aj BinOp.add x8 (i64 1)) fun v170=>P35_5 x0 x2 x5 v6 v7 v170 v5 x10 x11 R st169)))
 (bd (ad 6 v13) fun v171=>bd (ld1 st33 v171) fun v172=>ak v172
 (bd (ad 7 v13) fun v173=>bd (ld1 st33 v173) fun v174=>ak v174
 (bd (aN (av (ax [(0,1),(1,1)]) [i64 0,LV.nils] [])) fun v175=>bd2 (lmk (stV st33 2 x2 v175)) fun _v176 st177=>bd (ldA st177 x2 2) fun v178=>R (LV.tup [v178,v7,i64 1]) st177)
 (bd (ad 1 x5) fun v179=>bd (ld1 st33 v179) fun v180=>bd (ldA st33 v13 10) fun v181=>bd2
 (bJ st33 1
 (av (fun i=>some (i*10,10))
 (List.replicate 1
 [LV.str [],LV.str [],i64 0,LV.nils,LV.nils,LV.nils,LV.bool false,LV.bool false,
 LV.bool false,LV.bool false]).flatten
 [(0,v181)]))
 fun v182 st183=>bd2 (aP st183 10 120 Md.rw v180 v182) fun v184 st185=>bd (ad 1 x5) fun v186=>bd2 (lmk (stV st185 1 v186 v184)) fun _v187 st188=>bd (aj BinOp.add x8 (i64 1)) fun v189=>P35_5 x0 x2 x5 v6 v7 v189 v5 x10 x11 R st188))
 (bd (ad 1 x5) fun v190=>bd (ld1 st33 v190) fun v191=>bd (ldA st33 v13 10) fun v192=>bd2
 (bJ st33 1
 (av (fun i=>some (i*10,10))
 (List.replicate 1
 [LV.str [],LV.str [],i64 0,LV.nils,LV.nils,LV.nils,LV.bool false,LV.bool false,
 LV.bool false,LV.bool false]).flatten
 [(0,v192)]))
 fun v193 st194=>bd2 (aP st194 10 120 Md.rw v191 v193) fun v195 st196=>bd (ad 1 x5) fun v197=>bd2 (lmk (stV st196 1 v197 v195)) fun _v198 st199=>bd (aj BinOp.add x8 (i64 1)) fun v200=>P35_5 x0 x2 x5 v6 v7 v200 v5 x10 x11 R st199)))))))))
 (bd (bo x0) fun v201=>bd (aj BinOp.lss x6 v201) fun v202=>ak v202
 (bd (aN (av (ax [(0,1),(1,1)]) [i64 0,LV.nils] [])) fun v203=>bd (aj BinOp.add x7 (i64 1)) fun v204=>bd2 (lmk (stV st 2 x2 v203)) fun _v205 st206=>bd (ldA st206 x2 2) fun v207=>R (LV.tup [v207,v204,i64 4]) st206)
 (bd (aj BinOp.eql x7 (i64 0)) fun v208=>ak v208
 (bd (aN (av (ax [(0,1),(1,1)]) [i64 0,LV.nils] [])) fun v209=>bd (aj BinOp.add x7 (i64 1)) fun v210=>bd2 (lmk (stV st 2 x2 v209)) fun _v211 st212=>bd (ldA st212 x2 2) fun v213=>R (LV.tup [v213,v210,i64 4]) st212)
 (bd (ldA st x5 2) fun v214=>bd2 (lmk (stV st 2 x2 v214)) fun _v215 st216=>bd (ldA st216 x2 2) fun v217=>R (LV.tup [v217,i64 0,i64 0]) st216)))
theorem p35_5 (x0 x2 x5 x6 x7 x8 x9 x10 x11:LV) {R:LV.RT} {st:aa} (h:w35_5 x0 x2 x5 x6 x7 x8 x9 x10 x11 R st):P35_5 x0 x2 x5 x6 x7 x8 x9 x10 x11 R st:=
 pz Ce [] h
def w35_16 (x0 x2 x5 x6 x7 x8 x9 x10 x11:LV) (R:LV.RT) (st:aa):Prop:=
 bd (aj BinOp.leq x11 (i64 1000)) fun v0=>ak v0
 (bd (aj BinOp.lss x10 (i64 0)) fun v1=>ak v1
 (bd (bo x9) fun v2=>bd (aj BinOp.lss v2 (i64 14)) fun v3=>ak v3
 (LZ 104 [x11] st fun v4 st5=>bd (bg BinOp.add (LV.str [118,101,114,115,105,111,110,32]) v4) fun v6=>bd (bg BinOp.eql x9 v6) fun v7=>ak v7 (bd (aj BinOp.add x11 (i64 1)) fun v8=>P35_16 x0 x2 x5 x6 x7 x8 x9 x11 v8 R st5)
 (bd (aj BinOp.add x11 (i64 1)) fun v9=>P35_16 x0 x2 x5 x6 x7 x8 x9 x10 v9 R st5))
 (bd (aj BinOp.lss x10 (i64 0)) fun v10=>ak v10
 (bd (aN (av (ax [(0,1),(1,1)]) [i64 0,LV.nils] [])) fun v11=>LZ 105 [x9] st fun v12 st13=>bd2 (lmk (stV st13 2 x2 v11)) fun _v14 st15=>bd (ldA st15 x2 2) fun v16=>R (LV.tup [v16,i64 1,v12]) st15)
 (bd (ad 0 x5) fun v17=>bd2 (lmk (stV st 1 v17 x10)) fun _v18 st19=>bd (aj BinOp.add x8 (i64 1)) fun v20=>P35_5 x0 x2 x5 x6 x7 v20 x9 x10 x11 R st19)))
 (bd (aj BinOp.lss x10 (i64 0)) fun v21=>ak v21
 (bd (aN (av (ax [(0,1),(1,1)]) [i64 0,LV.nils] [])) fun v22=>LZ 105 [x9] st fun v23 st24=>bd2 (lmk (stV st24 2 x2 v22)) fun _v25 st26=>bd (ldA st26 x2 2) fun v27=>R (LV.tup [v27,i64 1,v23]) st26)
 (bd (ad 0 x5) fun v28=>bd2 (lmk (stV st 1 v28 x10)) fun _v29 st30=>bd (aj BinOp.add x8 (i64 1)) fun v31=>P35_5 x0 x2 x5 x6 x7 v31 x9 x10 x11 R st30)))
 (bd (aj BinOp.lss x10 (i64 0)) fun v32=>ak v32
 (bd (aN (av (ax [(0,1),(1,1)]) [i64 0,LV.nils] [])) fun v33=>LZ 105 [x9] st fun v34 st35=>bd2 (lmk (stV st35 2 x2 v33)) fun _v36 st37=>bd (ldA st37 x2 2) fun v38=>R (LV.tup [v38,i64 1,v34]) st37)
 (bd (ad 0 x5) fun v39=>bd2 (lmk (stV st 1 v39 x10)) fun _v40 st41=>bd (aj BinOp.add x8 (i64 1)) fun v42=>P35_5 x0 x2 x5 x6 x7 v42 x9 x10 x11 R st41))
theorem p35_16 (x0 x2 x5 x6 x7 x8 x9 x10 x11:LV) {R:LV.RT} {st:aa} (h:w35_16 x0 x2 x5 x6 x7 x8 x9 x10 x11 R st):P35_16 x0 x2 x5 x6 x7 x8 x9 x10 x11 R st:=
 pz Ce [] h
def w19 (a0:LV) (R:LV.RT) (st:aa):Prop:=
 LZ 77 [a0,i64 0] st fun v0 st1=>nw st1 [i64 0,i64 0] fun v2 st3=>bd2 (lmk (stV st3 2 v2 v0)) fun _v4 st5=>bd (ad 1 v2) fun v6=>bd (ld1 st5 v6) fun v7=>bd (aj BinOp.eql v7 (i64 0)) fun v8=>ak v8 (bd (ad 0 v2) fun v9=>bd (ld1 st5 v9) fun v10=>bd (bo a0) fun v11=>bd (aj BinOp.eql v10 v11) fun v12=>R v12 st5) (R (LV.bool false) st5)
theorem c19 (a0:LV) {R:LV.RT} {st:aa} (h:w19 a0 R st):LZ 19 [a0] st R:=
 cz [] [] [.tmp 2] Tryz.func19 h
def P40_3 (x1 x2 x5:LV) (R:LV.RT) (st:aa):Prop:=LTg Tryz.prog (kindOf false) [.tmp 4] (aZ Tryz.f40 3) [] R (.aQ::x1::x2::.aQ::.aQ::x5::(LV.jk 16 [])) st
def CZ:List Nat:=(LV.gx 0 22 [1,2,5])
def w40 (a0 a1:LV) (R:LV.RT) (st:aa):Prop:=
 bd2 (ej st a0) fun v0 st1=>P40_3 a1 v0 (i64 0) R st1
theorem c40 (a0 a1:LV) {R:LV.RT} {st:aa} (h:w40 a0 a1 R st):LZ 40 [a0,a1] st R:=
 cz CZ [] [.tmp 4] Tryz.func40 h
def w40_3 (x1 x2 x5:LV) (R:LV.RT) (st:aa):Prop:=
 bd (ad 1 x2) fun v0=>bd (ld1 st v0) fun v1=>bd (bD v1) fun v2=>bd (aj BinOp.lss x5 v2) fun v3=>ak v3
 (bd (ad 1 x2) fun v4=>bd (ld1 st v4) fun v5=>bd (bh 10 v5 x5) fun v6=>bd (ad 0 v6) fun v7=>bd (ld1 st v7) fun v8=>bd (bg BinOp.eql v8 x1) fun v9=>ak v9 (R x5 st) (bd (aj BinOp.add x5 (i64 1)) fun v10=>P40_3 x1 x2 v10 R st))
 (R (i64 (-1)) st)
theorem p40_3 (x1 x2 x5:LV) {R:LV.RT} {st:aa} (h:w40_3 x1 x2 x5 R st):P40_3 x1 x2 x5 R st:=
 pz CZ [] h
def P105_12 (x3 x5:LV) (R:LV.RT) (st:aa):Prop:=LTg Tryz.prog (kindOf false) [.tmp 2] (aZ Tryz.f105 12) [] R (LV.jk 3 (x3::.aQ::x5::(LV.jk 59 []))) st
def BA:List Nat:=(LV.gx 0 65 [3,5])
def w105 (a0:LV) (R:LV.RT) (st:aa):Prop:=
 bd (bo a0) fun v0=>bd (aj BinOp.leq v0 (i64 8)) fun v1=>ak v1 (R (i64 4) st)
 (bd (ob3 none (some (i64 8)) none fun l h m=>cq a0 l h m) fun v2=>bd (bg BinOp.neq v2 (LV.str [118,101,114,115,105,111,110,32])) fun v3=>ak v3 (R (i64 4) st)
 (bd (ob3 (some (i64 8)) none none fun l h m=>cq a0 l h m) fun v4=>bd (cn v4 (i64 0)) fun v5=>bd (aj BinOp.eql v5 (LV.int IntKind.u8 45)) fun v6=>ak v6
 (bd (ob3 (some (i64 1)) none none fun l h m=>cq v4 l h m) fun v7=>bd (bo v7) fun v8=>bd (aj BinOp.eql v8 (i64 0)) fun v9=>ak v9 (R (i64 4) st)
 (bd (bo v7) fun v10=>bd (aj BinOp.gtr v10 (i64 19)) fun v11=>ak v11 (R (i64 4) st)
 (bd (bo v7) fun v12=>bd (aj BinOp.eql v12 (i64 19)) fun v13=>ak v13
 (bd (bg BinOp.gtr v7 (LV.str [57,50,50,51,51,55,50,48,51,54,56,53,52,55,55,53,56,48,56])) fun v14=>ak v14 (R (i64 4) st)
 (bd (cn v7 (i64 0)) fun v15=>bd (aj BinOp.lss v15 (LV.int IntKind.u8 49)) fun v16=>ak v16 (R (i64 4) st)
 (bd (cn v7 (i64 0)) fun v17=>bd (aj BinOp.gtr v17 (LV.int IntKind.u8 57)) fun v18=>ak v18 (R (i64 4) st) (P105_12 v7 (i64 0) R st))))
 (bd (cn v7 (i64 0)) fun v19=>bd (aj BinOp.lss v19 (LV.int IntKind.u8 49)) fun v20=>ak v20 (R (i64 4) st)
 (bd (cn v7 (i64 0)) fun v21=>bd (aj BinOp.gtr v21 (LV.int IntKind.u8 57)) fun v22=>ak v22 (R (i64 4) st) (P105_12 v7 (i64 0) R st))))))
 (bd (bo v4) fun v23=>bd (aj BinOp.eql v23 (i64 0)) fun v24=>ak v24 (R (i64 4) st)
 (bd (bo v4) fun v25=>bd (aj BinOp.gtr v25 (i64 19)) fun v26=>ak v26 (R (i64 4) st)
 (bd (bo v4) fun v27=>bd (aj BinOp.eql v27 (i64 19)) fun v28=>ak v28
 (bd (bg BinOp.gtr v4 (LV.str [57,50,50,51,51,55,50,48,51,54,56,53,52,55,55,53,56,48,55])) fun v29=>ak v29 (R (i64 4) st)
 (bd (cn v4 (i64 0)) fun v30=>bd (aj BinOp.lss v30 (LV.int IntKind.u8 49)) fun v31=>ak v31 (R (i64 4) st)
 (bd (cn v4 (i64 0)) fun v32=>bd (aj BinOp.gtr v32 (LV.int IntKind.u8 57)) fun v33=>ak v33 (R (i64 4) st) (P105_12 v4 (i64 0) R st))))
 (bd (cn v4 (i64 0)) fun v34=>bd (aj BinOp.lss v34 (LV.int IntKind.u8 49)) fun v35=>ak v35 (R (i64 4) st)
 (bd (cn v4 (i64 0)) fun v36=>bd (aj BinOp.gtr v36 (LV.int IntKind.u8 57)) fun v37=>ak v37 (R (i64 4) st) (P105_12 v4 (i64 0) R st))))))))
theorem c105 (a0:LV) {R:LV.RT} {st:aa} (h:w105 a0 R st):LZ 105 [a0] st R:=
 cz BA [] [.tmp 2] Tryz.func105 h
def w105_12 (x3 x5:LV) (R:LV.RT) (st:aa):Prop:=
 bd (bo x3) fun v0=>bd (aj BinOp.lss x5 v0) fun v1=>ak v1
 (bd (cn x3 x5) fun v2=>bd (aj BinOp.lss v2 (LV.int IntKind.u8 48)) fun v3=>ak v3 (R (i64 4) st)
 (bd (cn x3 x5) fun v4=>bd (aj BinOp.gtr v4 (LV.int IntKind.u8 57)) fun v5=>ak v5 (R (i64 4) st) (bd (aj BinOp.add x5 (i64 1)) fun v6=>P105_12 x3 v6 R st)))
 (R (i64 2) st)
theorem p105_12 (x3 x5:LV) {R:LV.RT} {st:aa} (h:w105_12 x3 x5 R st):P105_12 x3 x5 R st:=
 pz BA [] h
def P106_4 (x0 x2 x4 x5:LV) (R:LV.RT) (st:aa):Prop:=LTg Tryz.prog (kindOf false) [.cell 2 31,.tmp 3] (aZ Tryz.f106 4) [] R (x0::.aQ::x2::.aQ::x4::x5::(LV.jk 81 [])) st
def P106_7 (x0 x2 x4 x5 x6:LV) (R:LV.RT) (st:aa):Prop:=LTg Tryz.prog (kindOf false) [.cell 2 31,.tmp 3] (aZ Tryz.f106 7) [] R (x0::.aQ::x2::.aQ::x4::x5::x6::(LV.jk 80 [])) st
def P106_17 (x2 x3:LV) (R:LV.RT) (st:aa):Prop:=LTg Tryz.prog (kindOf false) [.cell 2 31,.tmp 3] (aZ Tryz.f106 17) [] R (.aQ::.aQ::x2::x3::(LV.jk 83 [])) st
def wI:List Nat:=(LV.gx 1 86 [2,4,5,6])
def wJ:List (Nat × List Nat):=[(4,(LV.gx 1 86 [2,4,5])),(14,(LV.gx 0 87 [2,3]))]
def w106 (a0:LV) (R:LV.RT) (st:aa):Prop:=
 nw st [LV.str [],LV.str [],i64 0,LV.nils,LV.nils,LV.nils,LV.bool false,LV.bool false,LV.bool false,LV.bool false] fun v0 st1=>LZ 160 [a0] st1 fun v2 st3=>bd (bD v2) fun v4=>bd (aj BinOp.lss v4 (i64 3)) fun v5=>ak v5
 (bd
 (aN
 (av (ax [(0,1),(1,1),(2,4),(6,1),(7,1),(8,1),(9,1)])
 [LV.str [],LV.str [],i64 0,LV.nils,LV.nils,LV.nils,LV.bool false,LV.bool false,LV.bool false,LV.bool false] []))
 fun v6=>bd2 (lmk (stV st3 10 v0 v6)) fun _v7 st8=>bd (ldA st8 v0 10) fun v9=>R (LV.tup [v9,LV.bool false]) st8)
 (bd (bh 1 v2 (i64 1)) fun v10=>bd (ld1 st3 v10) fun v11=>bd (bh 1 v2 (i64 2)) fun v12=>bd (ld1 st3 v12) fun v13=>bd
 (aN
 (av (ax [(0,1),(1,1),(2,4),(6,1),(7,1),(8,1),(9,1)])
 [LV.str [],LV.str [],i64 0,LV.nils,LV.nils,LV.nils,LV.bool false,LV.bool false,LV.bool false,LV.bool false] [(0,v11),(1,v13)]))
 fun v14=>nw st3 [LV.str [],LV.str [],i64 0,LV.nils,LV.nils,LV.nils,LV.bool false,LV.bool false,LV.bool false,LV.bool false] fun v15 st16=>ld1 st16 v12=some v13∧ld1 st16 v10=some v11∧bd2 (lmk (stV st16 10 v15 v14)) fun _v17 st18=>P106_4 a0 v0 v2 v15 R st18)
theorem c106 (a0:LV) {R:LV.RT} {st:aa} (h:w106 a0 R st):LZ 106 [a0] st R:=
 cz wI wJ [.cell 2 31,.tmp 3] Tryz.func106 h
def w106_4 (x0 x2 x4 x5:LV) (R:LV.RT) (st:aa):Prop:=
 P106_7 x0 x2 x4 x5 (i64 3) R st
theorem p106_4 (x0 x2 x4 x5:LV) {R:LV.RT} {st:aa} (h:w106_4 x0 x2 x4 x5 R st):P106_4 x0 x2 x4 x5 R st:=
 pz wI wJ h
def w106_7 (x0 x2 x4 x5 x6:LV) (R:LV.RT) (st:aa):Prop:=
 bd (bD x4) fun v0=>bd (aj BinOp.lss x6 v0) fun v1=>ak v1
 (bd (ad 6 x5) fun v2=>bd (ld1 st v2) fun v3=>ak v3
 (bd (ad 6 x5) fun v4=>bd2 (lmk (stV st 1 v4 (LV.bool true))) fun _v5 st6=>bd (ad 7 x5) fun v7=>bd (ld1 st6 v7) fun v8=>ak v8
 (bd (ad 7 x5) fun v9=>bd2 (lmk (stV st6 1 v9 (LV.bool true))) fun _v10 st11=>bd (ad 8 x5) fun v12=>bd (ld1 st11 v12) fun v13=>ak v13
 (bd (ad 8 x5) fun v14=>bd2 (lmk (stV st11 1 v14 (LV.bool true))) fun _v15 st16=>bd (ad 9 x5) fun v17=>bd (ld1 st16 v17) fun v18=>ak v18
 (bd (ad 9 x5) fun v19=>bd2 (lmk (stV st16 1 v19 (LV.bool true))) fun _v20 st21=>bd (aj BinOp.add x6 (i64 1)) fun v22=>P106_7 x0 x2 x4 x5 v22 R st21)
 (bd (bh 1 x4 x6) fun v23=>bd (ld1 st16 v23) fun v24=>bd (bg BinOp.eql v24 (LV.str [110,101,119])) fun v25=>bd (ad 9 x5) fun v26=>bd2 (lmk (stV st16 1 v26 v25)) fun _v27 st28=>bd (aj BinOp.add x6 (i64 1)) fun v29=>P106_7 x0 x2 x4 x5 v29 R st28))
 (bd (bh 1 x4 x6) fun v30=>bd (ld1 st11 v30) fun v31=>bd (bg BinOp.eql v31 (LV.str [104,105,100,101])) fun v32=>bd (ad 8 x5) fun v33=>bd2 (lmk (stV st11 1 v33 v32)) fun _v34 st35=>bd (ad 9 x5) fun v36=>bd (ld1 st35 v36) fun v37=>ak v37
 (bd (ad 9 x5) fun v38=>bd2 (lmk (stV st35 1 v38 (LV.bool true))) fun _v39 st40=>bd (aj BinOp.add x6 (i64 1)) fun v41=>P106_7 x0 x2 x4 x5 v41 R st40)
 (bd (bh 1 x4 x6) fun v42=>bd (ld1 st35 v42) fun v43=>bd (bg BinOp.eql v43 (LV.str [110,101,119])) fun v44=>bd (ad 9 x5) fun v45=>bd2 (lmk (stV st35 1 v45 v44)) fun _v46 st47=>bd (aj BinOp.add x6 (i64 1)) fun v48=>P106_7 x0 x2 x4 x5 v48 R st47)))
 (bd (bh 1 x4 x6) fun v49=>bd (ld1 st6 v49) fun v50=>bd (bg BinOp.eql v50 (LV.str [111,119,110])) fun v51=>bd (ad 7 x5) fun v52=>bd2 (lmk (stV st6 1 v52 v51)) fun _v53 st54=>bd (ad 8 x5) fun v55=>bd (ld1 st54 v55) fun v56=>ak v56
 (bd (ad 8 x5) fun v57=>bd2 (lmk (stV st54 1 v57 (LV.bool true))) fun _v58 st59=>bd (ad 9 x5) fun v60=>bd (ld1 st59 v60) fun v61=>ak v61
 (bd (ad 9 x5) fun v62=>bd2 (lmk (stV st59 1 v62 (LV.bool true))) fun _v63 st64=>bd (aj BinOp.add x6 (i64 1)) fun v65=>P106_7 x0 x2 x4 x5 v65 R st64)
 (bd (bh 1 x4 x6) fun v66=>bd (ld1 st59 v66) fun v67=>bd (bg BinOp.eql v67 (LV.str [110,101,119])) fun v68=>bd (ad 9 x5) fun v69=>bd2 (lmk (stV st59 1 v69 v68)) fun _v70 st71=>bd (aj BinOp.add x6 (i64 1)) fun v72=>P106_7 x0 x2 x4 x5 v72 R st71))
 (bd (bh 1 x4 x6) fun v73=>bd (ld1 st54 v73) fun v74=>bd (bg BinOp.eql v74 (LV.str [104,105,100,101])) fun v75=>bd (ad 8 x5) fun v76=>bd2 (lmk (stV st54 1 v76 v75)) fun _v77 st78=>bd (ad 9 x5) fun v79=>bd (ld1 st78 v79) fun v80=>ak v80
 (bd (ad 9 x5) fun v81=>bd2 (lmk (stV st78 1 v81 (LV.bool true))) fun _v82 st83=>bd (aj BinOp.add x6 (i64 1)) fun v84=>P106_7 x0 x2 x4 x5 v84 R st83)
 (bd (bh 1 x4 x6) fun v85=>bd (ld1 st78 v85) fun v86=>bd (bg BinOp.eql v86 (LV.str [110,101,119])) fun v87=>bd (ad 9 x5) fun v88=>bd2 (lmk (stV st78 1 v88 v87)) fun _v89 st90=>bd (aj BinOp.add x6 (i64 1)) fun v91=>P106_7 x0 x2 x4 x5 v91 R st90))))
 (bd (bh 1 x4 x6) fun v92=>bd (ld1 st v92) fun v93=>bd (bg BinOp.eql v93 (LV.str [109,117,115,116])) fun v94=>bd (ad 6 x5) fun v95=>bd2 (lmk (stV st 1 v95 v94)) fun _v96 st97=>bd (ad 7 x5) fun v98=>bd (ld1 st97 v98) fun v99=>ak v99
 (bd (ad 7 x5) fun v100=>bd2 (lmk (stV st97 1 v100 (LV.bool true))) fun _v101 st102=>bd (ad 8 x5) fun v103=>bd (ld1 st102 v103) fun v104=>ak v104
 (bd (ad 8 x5) fun v105=>bd2 (lmk (stV st102 1 v105 (LV.bool true))) fun _v106 st107=>bd (ad 9 x5) fun v108=>bd (ld1 st107 v108) fun v109=>ak v109
 (bd (ad 9 x5) fun v110=>bd2 (lmk (stV st107 1 v110 (LV.bool true))) fun _v111 st112=>bd (aj BinOp.add x6 (i64 1)) fun v113=>P106_7 x0 x2 x4 x5 v113 R st112)
 (bd (bh 1 x4 x6) fun v114=>bd (ld1 st107 v114) fun v115=>bd (bg BinOp.eql v115 (LV.str [110,101,119])) fun v116=>bd (ad 9 x5) fun v117=>bd2 (lmk (stV st107 1 v117 v116)) fun _v118 st119=>bd (aj BinOp.add x6 (i64 1)) fun v120=>P106_7 x0 x2 x4 x5 v120 R st119))
 (bd (bh 1 x4 x6) fun v121=>bd (ld1 st102 v121) fun v122=>bd (bg BinOp.eql v122 (LV.str [104,105,100,101])) fun v123=>bd (ad 8 x5) fun v124=>bd2 (lmk (stV st102 1 v124 v123)) fun _v125 st126=>bd (ad 9 x5) fun v127=>bd (ld1 st126 v127) fun v128=>ak v128
 (bd (ad 9 x5) fun v129=>bd2 (lmk (stV st126 1 v129 (LV.bool true))) fun _v130 st131=>bd (aj BinOp.add x6 (i64 1)) fun v132=>P106_7 x0 x2 x4 x5 v132 R st131)
 (bd (bh 1 x4 x6) fun v133=>bd (ld1 st126 v133) fun v134=>bd (bg BinOp.eql v134 (LV.str [110,101,119])) fun v135=>bd (ad 9 x5) fun v136=>bd2 (lmk (stV st126 1 v136 v135)) fun _v137 st138=>bd (aj BinOp.add x6 (i64 1)) fun v139=>P106_7 x0 x2 x4 x5 v139 R st138)))
 (bd (bh 1 x4 x6) fun v140=>bd (ld1 st97 v140) fun v141=>bd (bg BinOp.eql v141 (LV.str [111,119,110])) fun v142=>bd (ad 7 x5) fun v143=>bd2 (lmk (stV st97 1 v143 v142)) fun _v144 st145=>bd (ad 8 x5) fun v146=>bd (ld1 st145 v146) fun v147=>ak v147
 (bd (ad 8 x5) fun v148=>bd2 (lmk (stV st145 1 v148 (LV.bool true))) fun _v149 st150=>bd (ad 9 x5) fun v151=>bd (ld1 st150 v151) fun v152=>ak v152
 (bd (ad 9 x5) fun v153=>bd2 (lmk (stV st150 1 v153 (LV.bool true))) fun _v154 st155=>bd (aj BinOp.add x6 (i64 1)) fun v156=>P106_7 x0 x2 x4 x5 v156 R st155)
 (bd (bh 1 x4 x6) fun v157=>bd (ld1 st150 v157) fun v158=>bd (bg BinOp.eql v158 (LV.str [110,101,119])) fun v159=>bd (ad 9 x5) fun v160=>bd2 (lmk (stV st150 1 v160 v159)) fun _v161 st162=>bd (aj BinOp.add x6 (i64 1)) fun v163=>P106_7 x0 x2 x4 x5 v163 R st162))
 (bd (bh 1 x4 x6) fun v164=>bd (ld1 st145 v164) fun v165=>bd (bg BinOp.eql v165 (LV.str [104,105,100,101])) fun v166=>bd (ad 8 x5) fun v167=>bd2 (lmk (stV st145 1 v167 v166)) fun _v168 st169=>bd (ad 9 x5) fun v170=>bd (ld1 st169 v170) fun v171=>ak v171
 (bd (ad 9 x5) fun v172=>bd2 (lmk (stV st169 1 v172 (LV.bool true))) fun _v173 st174=>bd (aj BinOp.add x6 (i64 1)) fun v175=>P106_7 x0 x2 x4 x5 v175 R st174)
 (bd (bh 1 x4 x6) fun v176=>bd (ld1 st169 v176) fun v177=>bd (bg BinOp.eql v177 (LV.str [110,101,119])) fun v178=>bd (ad 9 x5) fun v179=>bd2 (lmk (stV st169 1 v179 v178)) fun _v180 st181=>bd (aj BinOp.add x6 (i64 1)) fun v182=>P106_7 x0 x2 x4 x5 v182 R st181)))))
 (bd (bh 1 x4 (i64 2)) fun v183=>bd (ld1 st v183) fun v184=>LZ 161 [v184] st fun v185 st186=>bd (ar v185 0) fun v187=>bd (ar v185 1) fun v188=>nw st186 [i64 0,LV.nils,LV.nils,LV.nils] fun v189 st190=>nw st190 [i64 0,i64 0] fun v191 st192=>bd2 (lmk (stV st192 4 v189 v187)) fun _v193 st194=>bd2 (lmk (stV st194 2 v191 v188)) fun _v195 st196=>bd (ldA st196 v189 4) fun v197=>bd (ad 2 x5) fun v198=>bd2 (lmk (stV st196 4 v198 v197)) fun _v199 st200=>bd (ldA st200 x5 10) fun v201=>bd (ad 1 v191) fun v202=>bd (ld1 st200 v202) fun v203=>bd (aj BinOp.eql v203 (i64 0)) fun v204=>ak v204
 (bd (ldA st200 x5 10) fun v205=>LZ 162 [v205] st200 fun v206 st207=>ldA st207 x5 10=some v201∧bd (bg BinOp.eql v206 x0) fun v208=>bd2 (lmk (stV st207 10 x2 v201)) fun _v209 st210=>P106_17 x2 v208 R st210)
 (bd2 (lmk (stV st200 10 x2 v201)) fun _v211 st212=>P106_17 x2 (LV.bool false) R st212))
theorem p106_7 (x0 x2 x4 x5 x6:LV) {R:LV.RT} {st:aa} (h:w106_7 x0 x2 x4 x5 x6 R st):P106_7 x0 x2 x4 x5 x6 R st:=
 pz wI wJ h
def w106_17 (x2 x3:LV) (R:LV.RT) (st:aa):Prop:=
 bd (ldA st x2 10) fun v0=>R (LV.tup [v0,x3]) st
theorem p106_17 (x2 x3:LV) {R:LV.RT} {st:aa} (h:w106_17 x2 x3 R st):P106_17 x2 x3 R st:=
 pz wI wJ h
def P160_5 (x0 x3 x4 x5:LV) (R:LV.RT) (st:aa):Prop:=LTg Tryz.prog (kindOf false) [.tmp 2] (aZ Tryz.f160 5) [] R (x0::.aQ::.aQ::x3::x4::x5::(LV.jk 26 [])) st
def BB:List Nat:=(LV.gx 1 31 [3,4,5])
def w160 (a0:LV) (R:LV.RT) (st:aa):Prop:=
 P160_5 a0 LV.nils (i64 0) (i64 0) R st
theorem c160 (a0:LV) {R:LV.RT} {st:aa} (h:w160 a0 R st):LZ 160 [a0] st R:=
 cz BB [] [.tmp 2] Tryz.func160 h
def w160_5 (x0 x3 x4 x5:LV) (R:LV.RT) (st:aa):Prop:=
 bd (bo x0) fun v0=>bd (aj BinOp.leq x5 v0) fun v1=>ak v1
 (bd (bo x0) fun v2=>bd (aj BinOp.eql x5 v2) fun v3=>ak v3
 (bd (ob3 (some x4) (some x5) none fun l h m=>cq x0 l h m) fun v4=>bd2 (bJ st 1 (av (fun i=>some (i*1,1)) (List.replicate 1 [LV.str []]).flatten [(0,v4)])) fun v5 st6=>bd2 (aP st6 1 16 Md.rw x3 v5) fun v7 st8=>bd (aj BinOp.add x5 (i64 1)) fun v9=>bd (aj BinOp.add x5 (i64 1)) fun v10=>P160_5 x0 v7 v9 v10 R st8)
 (bd (cn x0 x5) fun v11=>bd (aj BinOp.eql v11 (LV.int IntKind.u8 32)) fun v12=>ak v12
 (bd (ob3 (some x4) (some x5) none fun l h m=>cq x0 l h m) fun v13=>bd2 (bJ st 1 (av (fun i=>some (i*1,1)) (List.replicate 1 [LV.str []]).flatten [(0,v13)])) fun v14 st15=>bd2 (aP st15 1 16 Md.rw x3 v14) fun v16 st17=>bd (aj BinOp.add x5 (i64 1)) fun v18=>bd (aj BinOp.add x5 (i64 1)) fun v19=>P160_5 x0 v16 v18 v19 R st17)
 (bd (aj BinOp.add x5 (i64 1)) fun v20=>P160_5 x0 x3 x4 v20 R st)))
 (R x3 st)
theorem p160_5 (x0 x3 x4 x5:LV) {R:LV.RT} {st:aa} (h:w160_5 x0 x3 x4 x5 R st):P160_5 x0 x3 x4 x5 R st:=
 pz BB [] h
def w162 (a0:LV) (R:LV.RT) (st:aa):Prop:=
 bd2 (ej st a0) fun v0 st1=>bd (ad 0 v0) fun v2=>bd (ld1 st1 v2) fun v3=>bd (bg BinOp.add (LV.str [97,116,116,114,32]) v3) fun v4=>bd (bg BinOp.add v4 (LV.str [32])) fun v5=>bd (ad 1 v0) fun v6=>bd (ld1 st1 v6) fun v7=>bd (bg BinOp.add v5 v7) fun v8=>bd (ad 6 v0) fun v9=>bd (ld1 st1 v9) fun v10=>ak v10
 (bd (bg BinOp.add v8 (LV.str [32,109,117,115,116])) fun v11=>bd (ad 7 v0) fun v12=>bd (ld1 st1 v12) fun v13=>ak v13
 (bd (bg BinOp.add v11 (LV.str [32,111,119,110])) fun v14=>bd (ad 8 v0) fun v15=>bd (ld1 st1 v15) fun v16=>ak v16
 (bd (bg BinOp.add v14 (LV.str [32,104,105,100,101])) fun v17=>bd (ad 9 v0) fun v18=>bd (ld1 st1 v18) fun v19=>ak v19 (bd (bg BinOp.add v17 (LV.str [32,110,101,119])) fun v20=>R v20 st1) (R v17 st1))
 (bd (ad 9 v0) fun v21=>bd (ld1 st1 v21) fun v22=>ak v22 (bd (bg BinOp.add v14 (LV.str [32,110,101,119])) fun v23=>R v23 st1) (R v14 st1)))
 (bd (ad 8 v0) fun v24=>bd (ld1 st1 v24) fun v25=>ak v25
 (bd (bg BinOp.add v11 (LV.str [32,104,105,100,101])) fun v26=>bd (ad 9 v0) fun v27=>bd (ld1 st1 v27) fun v28=>ak v28 (bd (bg BinOp.add v26 (LV.str [32,110,101,119])) fun v29=>R v29 st1) (R v26 st1))
 (bd (ad 9 v0) fun v30=>bd (ld1 st1 v30) fun v31=>ak v31 (bd (bg BinOp.add v11 (LV.str [32,110,101,119])) fun v32=>R v32 st1) (R v11 st1))))
 (bd (ad 7 v0) fun v33=>bd (ld1 st1 v33) fun v34=>ak v34
 (bd (bg BinOp.add v8 (LV.str [32,111,119,110])) fun v35=>bd (ad 8 v0) fun v36=>bd (ld1 st1 v36) fun v37=>ak v37
 (bd (bg BinOp.add v35 (LV.str [32,104,105,100,101])) fun v38=>bd (ad 9 v0) fun v39=>bd (ld1 st1 v39) fun v40=>ak v40 (bd (bg BinOp.add v38 (LV.str [32,110,101,119])) fun v41=>R v41 st1) (R v38 st1))
 (bd (ad 9 v0) fun v42=>bd (ld1 st1 v42) fun v43=>ak v43 (bd (bg BinOp.add v35 (LV.str [32,110,101,119])) fun v44=>R v44 st1) (R v35 st1)))
 (bd (ad 8 v0) fun v45=>bd (ld1 st1 v45) fun v46=>ak v46
 (bd (bg BinOp.add v8 (LV.str [32,104,105,100,101])) fun v47=>bd (ad 9 v0) fun v48=>bd (ld1 st1 v48) fun v49=>ak v49 (bd (bg BinOp.add v47 (LV.str [32,110,101,119])) fun v50=>R v50 st1) (R v47 st1))
 (bd (ad 9 v0) fun v51=>bd (ld1 st1 v51) fun v52=>ak v52 (bd (bg BinOp.add v8 (LV.str [32,110,101,119])) fun v53=>R v53 st1) (R v8 st1))))
theorem c162 (a0:LV) {R:LV.RT} {st:aa} (h:w162 a0 R st):LZ 162 [a0] st R:=
 cz [] [] [.tmp 2] Tryz.func162 h
def P104_7 (x0 x3:LV) (R:LV.RT) (st:aa):Prop:=LTg Tryz.prog (kindOf false) [.tmp 2] (aZ Tryz.f104 7) [] R (x0::.aQ::.aQ::x3::(LV.jk 25 [])) st
def BC:List Nat:=(LV.gx 1 28 [3])
def w104 (a0:LV) (R:LV.RT) (st:aa):Prop:=
 bd (aj BinOp.lss a0 (i64 0)) fun v0=>ak v0
 (bd (aj BinOp.eql a0 (i64 (-9223372036854775808))) fun v1=>ak v1 (R (LV.str [45,57,50,50,51,51,55,50,48,51,54,56,53,52,55,55,53,56,48,56]) st)
 (bd (lun UnOp.neg a0) fun v2=>LZ 104 [v2] st fun v3 st4=>bd (bg BinOp.add (LV.str [45]) v3) fun v5=>R v5 st4))
 (P104_7 a0 (LV.str []) R st)
theorem c104 (a0:LV) {R:LV.RT} {st:aa} (h:w104 a0 R st):LZ 104 [a0] st R:=
 cz BC [] [.tmp 2] Tryz.func104 h
def w104_7 (x0 x3:LV) (R:LV.RT) (st:aa):Prop:=
 bd (bg BinOp.eql x3 (LV.str [])) fun v0=>ak v0
 (bd (aj BinOp.rem x0 (i64 10)) fun v1=>bd (aj BinOp.add (i64 48) v1) fun v2=>bd (fj IntKind.u8 v2) fun v3=>bd2 (bJ st 1 (av (fun i=>some (i*1,1)) (List.replicate 1 [LV.int IntKind.u8 0]).flatten [(0,v3)])) fun v4 st5=>bd (dV st5 v4) fun v6=>bd (bg BinOp.add v6 x3) fun v7=>bd (aj BinOp.quo x0 (i64 10)) fun v8=>P104_7 v8 v7 R st5)
 (bd (aj BinOp.gtr x0 (i64 0)) fun v9=>ak v9
 (bd (aj BinOp.rem x0 (i64 10)) fun v10=>bd (aj BinOp.add (i64 48) v10) fun v11=>bd (fj IntKind.u8 v11) fun v12=>bd2 (bJ st 1 (av (fun i=>some (i*1,1)) (List.replicate 1 [LV.int IntKind.u8 0]).flatten [(0,v12)])) fun v13 st14=>bd (dV st14 v13) fun v15=>bd (bg BinOp.add v15 x3) fun v16=>bd (aj BinOp.quo x0 (i64 10)) fun v17=>P104_7 v17 v16 R st14)
 (R x3 st))
theorem p104_7 (x0 x3:LV) {R:LV.RT} {st:aa} (h:w104_7 x0 x3 R st):P104_7 x0 x3 R st:=
 pz BC [] h
end Go.Proofs.YtknegckgmklnhaaGreatDoor
