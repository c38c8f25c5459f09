/- Walks over the clean machine: what each function does, printed by a program of this work (cq.py) out of the loaded functions; each is checked by the kernel. -/
import Derived.Test.YtknegckgmklnhaaGreatDoorProg
import Derived.Test.YtknegckgmklnhaaGreatDoorVbW
import Derived.Test.YtknegckgmklnhaaGreatDoorCp41
namespace Go.Proofs.YtknegckgmklnhaaGreatDoor
open Go Go.CP
set_option maxRecDepth 100000
def P38_15 (x0 x3 x43 x44 x45:LV) (R:LV.RT) (st:aa):Prop:=LTg Tryz.prog (kindOf false) [.tmp 2] (bg Tryz.f38 15) [] R (x0::.aM::.aM::x3::(LV.jk 39 (x43::x44::x45::(LV.jk 33 [])))) st
def GP:List Nat:=(LV.gx 1 78 [3,43,44,45])
def w38 (a0:LV) (R:LV.RT) (st:aa):Prop:=
 bd (eqB BinOp.eql (eN true a0 LV.nilp)) fun v0=>aq v0 (R (LV.str []) st)
 (bd (ah a0) fun v1=>bd (ad 1 v1) fun v2=>bd (ld1 st v2) fun v3=>LZ 107 [v3] st fun v4 st5=>bd (ah a0) fun v6=>bd (ad 0 v6) fun v7=>bd (ld1 st5 v7) fun v8=>bd (al BinOp.eql v8 (i64 5)) fun v9=>aq v9
 (bd (aW 1 v4 (i64 0)) fun v10=>bd (ld1 st5 v10) fun v11=>bd (bF BinOp.add (LV.str [108,105,115,116,40]) v11) fun v12=>bd (bF BinOp.add v12 (LV.str [41])) fun v13=>R v13 st5)
 (bd (al BinOp.eql v8 (i64 6)) fun v14=>aq v14
 (bd (aW 1 v4 (i64 0)) fun v15=>bd (ld1 st5 v15) fun v16=>bd (bF BinOp.add (LV.str [109,97,112,40]) v16) fun v17=>bd (bF BinOp.add v17 (LV.str [41])) fun v18=>R v18 st5)
 (bd (al BinOp.eql v8 (i64 7)) fun v19=>aq v19
 (LZ 108 [v4,LV.str [44]] st5 fun v20 st21=>bd (bF BinOp.add (LV.str [91]) v20) fun v22=>bd (bF BinOp.add v22 (LV.str [93])) fun v23=>R v23 st21)
 (bd (al BinOp.eql v8 (i64 8)) fun v24=>aq v24
 (bd (ah a0) fun v25=>bd (ad 2 v25) fun v26=>bd (ld1 st5 v26) fun v27=>bd (bq v27) fun v28=>P38_15 a0 v4 v27 v28 (i64 0) R st5)
 (bd (ah a0) fun v29=>bd (ad 0 v29) fun v30=>bd (ld1 st5 v30) fun v31=>LZ 109 [] st5 fun v32 st33=>ld1 st33 v30=some v31∧bd (pW 5 (fun x j=>zC (j*1) x) v32 v31) fun v34=>R v34 st33)))))
theorem c38 (a0:LV) {R:LV.RT} {st:aa} (h:w38 a0 R st):LZ 38 [a0] st R:=
 cz GP [] [.tmp 2] Tryz.func38 h
def w38_15 (x0 x3 x43 x44 x45:LV) (R:LV.RT) (st:aa):Prop:=
 bd (al BinOp.lss x45 x44) fun v0=>aq v0
 (bd (aW 1 x43 x45) fun v1=>bd (ld1 st v1) fun v2=>bd (ah x0) fun v3=>bd (ad 3 v3) fun v4=>bd (ld1 st v4) fun v5=>bd (aW 1 v5 x45) fun v6=>bd (ld1 st v6) fun v7=>aq v7
 (bd (bF BinOp.add v2 (LV.str [63,58])) fun v8=>bd (aW 1 x3 x45) fun v9=>bd (ld1 st v9) fun v10=>bd (bF BinOp.add v8 v10) fun v11=>bd (aW 1 x3 x45) fun v12=>bd2 (lmk (stV st 1 v12 v11)) fun _v13 st14=>bd (al BinOp.add x45 (i64 1)) fun v15=>P38_15 x0 x3 x43 x44 v15 R st14)
 (bd (bF BinOp.add v2 (LV.str [58])) fun v16=>bd (aW 1 x3 x45) fun v17=>bd (ld1 st v17) fun v18=>bd (bF BinOp.add v16 v18) fun v19=>bd (aW 1 x3 x45) fun v20=>bd2 (lmk (stV st 1 v20 v19)) fun _v21 st22=>bd (al BinOp.add x45 (i64 1)) fun v23=>P38_15 x0 x3 x43 x44 v23 R st22))
 (LZ 108 [x3,LV.str [44]] st fun v24 st25=>bd (bF BinOp.add (LV.str [123]) v24) fun v26=>bd (bF BinOp.add v26 (LV.str [125])) fun v27=>R v27 st25)
theorem p38_15 (x0 x3 x43 x44 x45:LV) {R:LV.RT} {st:aa} (h:w38_15 x0 x3 x43 x44 x45 R st):P38_15 x0 x3 x43 x44 x45 R st:=
 pz GP [] h
def P107_4 (x3 x6 x7 x8:LV) (R:LV.RT) (st:aa):Prop:=LTg Tryz.prog (kindOf false) [.tmp 2] (bg Tryz.f107 4) [] R (LV.jk 3 (x3::.aM::.aM::x6::x7::x8::(LV.jk 10 []))) st
def EC:List Nat:=(LV.gx 0 19 [3,6,7,8])
def w107 (a0:LV) (R:LV.RT) (st:aa):Prop:=
 bd (bq a0) fun v0=>P107_4 LV.nils a0 v0 (i64 0) R st
theorem c107 (a0:LV) {R:LV.RT} {st:aa} (h:w107 a0 R st):LZ 107 [a0] st R:=
 cz EC [] [.tmp 2] Tryz.func107 h
def w107_4 (x3 x6 x7 x8:LV) (R:LV.RT) (st:aa):Prop:=
 bd (al BinOp.lss x8 x7) fun v0=>aq v0
 (bd (aW 1 x6 x8) fun v1=>bd (ld1 st v1) fun v2=>LZ 38 [v2] st fun v3 st4=>bd2 (aO st4 1 (ao (fun i=>some (i*1,1)) (List.replicate 1 [LV.str []]).flatten [(0,v3)])) fun v5 st6=>bd2 (ak st6 1 16 Md.rw x3 v5) fun v7 st8=>bd (al BinOp.add x8 (i64 1)) fun v9=>P107_4 v7 x6 x7 v9 R st8)
 (R x3 st)
theorem p107_4 (x3 x6 x7 x8:LV) {R:LV.RT} {st:aa} (h:w107_4 x3 x6 x7 x8 R st):P107_4 x3 x6 x7 x8 R st:=
 pz EC [] h
def w172 (a0 a1:LV) (R:LV.RT) (st:aa):Prop:=
 bd2 (cL st a1) fun v0 st1=>bd (ldA st1 v0 1) fun v2=>LZ 46 [v2] st1 fun v3 st4=>bd (ah a0) fun v5=>bd (ad 0 v5) fun v6=>bd (ld1 st4 v6) fun v7=>bd (al BinOp.eql v7 (i64 1)) fun v8=>aq v8 (bd (al BinOp.eql v3 (i64 2)) fun v9=>R v9 st4)
 (bd (al BinOp.eql v7 (i64 2)) fun v10=>aq v10 (bd (al BinOp.eql v3 (i64 3)) fun v11=>R v11 st4)
 (bd (al BinOp.eql v7 (i64 3)) fun v12=>aq v12
 (bd (al BinOp.eql v3 (i64 4)) fun v13=>aq v13 (R (LV.bool true) st4) (bd (ldA st4 v0 1) fun v14=>LZ 212 [v14] st4 fun v15 st16=>R v15 st16))
 (bd (al BinOp.eql v7 (i64 4)) fun v17=>aq v17 (bd (al BinOp.eql v3 (i64 5)) fun v18=>R v18 st4) (R (LV.bool true) st4))))
theorem c172 (a0 a1:LV) {R:LV.RT} {st:aa} (h:w172 a0 a1 R st):LZ 172 [a0,a1] st R:=
 cz [] [] [.tmp 4] Tryz.func172 h
def P118_4 (x0 x3:LV) (R:LV.RT) (st:aa):Prop:=LTg Tryz.prog (kindOf false) [.tmp 4,.tmp 5] (bg Tryz.f118 4) [] R (x0::.aM::.aM::x3::(LV.jk 77 [])) st
def P118_12 (x0 x3 x7 x39:LV) (R:LV.RT) (st:aa):Prop:=LTg Tryz.prog (kindOf false) [.tmp 4,.tmp 5] (bg Tryz.f118 12) [] R (x0::.aM::.aM::x3::(LV.jk 3 (x7::(LV.jk 31 (x39::(LV.jk 41 [])))))) st
def P118_13 (x0 x7:LV) (R:LV.RT) (st:aa):Prop:=LTg Tryz.prog (kindOf false) [.tmp 4,.tmp 5] (bg Tryz.f118 13) [] R (x0::(LV.jk 6 (x7::(LV.jk 73 [])))) st
def P118_17 (x4 x5:LV) (R:LV.RT) (st:aa):Prop:=LTg Tryz.prog (kindOf false) [.tmp 4,.tmp 5] (bg Tryz.f118 17) [] R (LV.jk 4 (x4::x5::(LV.jk 75 []))) st
def P118_21 (x4 x5:LV) (R:LV.RT) (st:aa):Prop:=LTg Tryz.prog (kindOf false) [.tmp 4,.tmp 5] (bg Tryz.f118 21) [] R (LV.jk 4 (x4::x5::(LV.jk 75 []))) st
def r6:List (Nat × List Nat):=[(0,[1,2,4,5,6,7,8,9,10,11,12,13,14,15,16,17,18,19,20,21,22,23,24,25,26,27,28,29,30,31,32,33,34,35,36,37,38,39,40,41,42,43,44,45,46,47,48,49,50,51,52,53,54,55,56,57,58,59,60,61,62,63,64,65,66,67,68,69,70,71,72,73,74,75,76,77,78,79,80]),(1,[1,2,3,4,5,6,8,9,10,11,12,13,14,15,16,17,18,19,20,21,22,23,24,25,26,27,28,29,30,31,32,33,34,35,36,37,38,39,40,41,42,43,44,45,46,47,48,49,50,51,52,53,54,55,56,57,58,59,60,61,62,63,64,65,66,67,68,69,70,71,72,73,74,75,76,77,78,79,80])]
def r7:List (Nat × List Nat):=[(11,(LV.gx 1 80 [3,7,39])),(15,(LV.gx 0 81 [4,5])),(19,(LV.gx 0 81 [4,5]))]
def w118 (a0 a1:LV) (R:LV.RT) (st:aa):Prop:=
 bd2 (cL st a1) fun v0 st1=>bd (eqB BinOp.eql (eN true a0 LV.nilp)) fun v2=>aq v2 (R (LV.tup [LV.nils,LV.bool true]) st1)
 (bd (ldA st1 v0 1) fun v3=>LZ 46 [v3] st1 fun v4 st5=>bd (al BinOp.eql v4 (i64 0)) fun v6=>aq v6 (R (LV.tup [LV.nils,LV.bool false]) st5)
 (bd (al BinOp.eql v4 (i64 1)) fun v7=>aq v7 (R (LV.tup [LV.nils,LV.bool false]) st5)
 (bd (ah a0) fun v8=>bd (ad 0 v8) fun v9=>bd (ld1 st5 v9) fun v10=>bd (al BinOp.lss v10 (i64 5)) fun v11=>aq v11 (bd (ldA st5 v0 1) fun v12=>LZ 172 [a0,v12] st5 fun v13 st14=>bd (lun UnOp.not v13) fun v15=>R (LV.tup [LV.nils,v15]) st14)
 (LZ 167 [a0] st5 fun v16 st17=>bd (al BinOp.neq v4 v16) fun v18=>aq v18 (R (LV.tup [LV.nils,LV.bool true]) st17) (P118_4 a0 v0 R st17)))))
theorem c118 (a0 a1:LV) {R:LV.RT} {st:aa} (h:w118 a0 a1 R st):LZ 118 [a0,a1] st R:=
 aw.ofE (gl:=[]) (cuts:=r6) (rc:=r7) (n:=3000) aK Tryz.func118 (show Tryz.f118.body=some (br Tryz.f118) by kernel_rfl) (by kernel_rfl) (show Tryz.f118.results.toList=[.tmp 4,.tmp 5] by kernel_rfl) (by kernel_rfl) h
def w118_4 (x0 x3:LV) (R:LV.RT) (st:aa):Prop:=
 bd (ldA st x3 1) fun v0=>LZ 101 [v0] st fun v1 st2=>bd (ah x0) fun v3=>bd (ad 0 v3) fun v4=>bd (ld1 st2 v4) fun v5=>P118_12 x0 x3 v1 v5 R st2
theorem p118_4 (x0 x3:LV) {R:LV.RT} {st:aa} (h:w118_4 x0 x3 R st):P118_4 x0 x3 R st:=
 LTg.atE (gl:=[]) (cuts:=r6) (rc:=r7) (n:=3000) aK (by kernel_rfl) h
def w118_12 (x0 x3 x7 x39:LV) (R:LV.RT) (st:aa):Prop:=
 bd (al BinOp.eql x39 (i64 8)) fun v0=>aq v0 (bd (ldA st x3 1) fun v1=>LZ 173 [x0,v1] st fun v2 st3=>bd (aj v2 0) fun v4=>bd (aj v2 1) fun v5=>R (LV.tup [v4,v5]) st3)
 (bd (al BinOp.eql x39 (i64 6)) fun v6=>aq v6
 (bd (ah x0) fun v7=>bd (ad 1 v7) fun v8=>bd (ld1 st v8) fun v9=>bd (ldA st x3 1) fun v10=>LZ 49 [v10] st fun v11 st12=>ld1 st12 v8=some v9∧
 LZ 175 [v11] st12 fun v13 st14=>ld1 st14 v8=some v9∧LZ 174 [v9,x7,v13] st14 fun v15 st16=>bd (aj v15 0) fun v17=>bd (aj v15 1) fun v18=>P118_17 v17 v18 R st16)
 (bd (al BinOp.eql x39 (i64 7)) fun v19=>aq v19
 (bd (bq x7) fun v20=>bd (ah x0) fun v21=>bd (ad 1 v21) fun v22=>bd (ld1 st v22) fun v23=>bd (bq v23) fun v24=>bd (al BinOp.neq v20 v24) fun v25=>aq v25 (R (LV.tup [LV.nils,LV.bool true]) st) (P118_13 x0 x7 R st))
 (P118_13 x0 x7 R st)))
theorem p118_12 (x0 x3 x7 x39:LV) {R:LV.RT} {st:aa} (h:w118_12 x0 x3 x7 x39 R st):P118_12 x0 x3 x7 x39 R st:=
 LTg.atE (gl:=[]) (cuts:=r6) (rc:=r7) (n:=3000) aK (by kernel_rfl) h
def w118_13 (x0 x7:LV) (R:LV.RT) (st:aa):Prop:=
 bd (ah x0) fun v0=>bd (ad 1 v0) fun v1=>bd (ld1 st v1) fun v2=>bd (bq x7) fun v3=>LZ 176 [v3] st fun v4 st5=>ld1 st5 v1=some v2∧LZ 174 [v2,x7,v4] st5 fun v6 st7=>bd (aj v6 0) fun v8=>bd (aj v6 1) fun v9=>P118_21 v8 v9 R st7
theorem p118_13 (x0 x7:LV) {R:LV.RT} {st:aa} (h:w118_13 x0 x7 R st):P118_13 x0 x7 R st:=
 LTg.atE (gl:=[]) (cuts:=r6) (rc:=r7) (n:=3000) aK (by kernel_rfl) h
def w118_17 (x4 x5:LV) (R:LV.RT) (st:aa):Prop:=
 R (LV.tup [x4,x5]) st
theorem p118_17 (x4 x5:LV) {R:LV.RT} {st:aa} (h:w118_17 x4 x5 R st):P118_17 x4 x5 R st:=
 LTg.atE (gl:=[]) (cuts:=r6) (rc:=r7) (n:=3000) aK (by kernel_rfl) h
def w118_21 (x4 x5:LV) (R:LV.RT) (st:aa):Prop:=
 R (LV.tup [x4,x5]) st
theorem p118_21 (x4 x5:LV) {R:LV.RT} {st:aa} (h:w118_21 x4 x5 R st):P118_21 x4 x5 R st:=
 LTg.atE (gl:=[]) (cuts:=r6) (rc:=r7) (n:=3000) aK (by kernel_rfl) h
def P173_4 (x0 x3 x6 x18 x19 x20 x54 x55 x56:LV) (R:LV.RT) (st:aa):Prop:=LTg Tryz.prog (kindOf false) [.tmp 4,.tmp 5] (bg Tryz.f173 4) [] R (x0::.aM::.aM::x3::.aM::.aM::x6::(LV.jk 11 (x18::x19::x20::(LV.jk 33 (x54::x55::x56::(LV.jk 7 [])))))) st
def P173_17 (x0 x3 x6 x18 x19 x20 x54 x55 x56:LV) (R:LV.RT) (st:aa):Prop:=LTg Tryz.prog (kindOf false) [.tmp 4,.tmp 5] (bg Tryz.f173 17) [] R (x0::.aM::.aM::x3::.aM::.aM::x6::(LV.jk 11 (x18::x19::x20::(LV.jk 33 (x54::x55::x56::(LV.jk 7 [])))))) st
def Bx:List Nat:=(LV.gx 1 63 [3,6,18,19,20,54,55,56])
def w173 (a0 a1:LV) (R:LV.RT) (st:aa):Prop:=
 bd2 (cL st a1) fun v0 st1=>bd (ldA st1 v0 1) fun v2=>LZ 101 [v2] st1 fun v3 st4=>bd (ldA st4 v0 1) fun v5=>LZ 49 [v5] st4 fun v6 st7=>bd (bq v6) fun v8=>P173_4 a0 v0 v3 v6 v8 (i64 0) (LV.tup []) (LV.tup []) (LV.tup []) R st7
theorem c173 (a0 a1:LV) {R:LV.RT} {st:aa} (h:w173 a0 a1 R st):LZ 173 [a0,a1] st R:=
 cz Bx [] [.tmp 4,.tmp 5] Tryz.func173 h
def w173_4 (x0 x3 x6 x18 x19 x20 x54 x55 x56:LV) (R:LV.RT) (st:aa):Prop:=
 bd (al BinOp.lss x20 x19) fun v0=>aq v0
 (bd (aW 1 x18 x20) fun v1=>bd (ld1 st v1) fun v2=>LZ 213 [x0,v2] st fun v3 st4=>bd (aj v3 0) fun v5=>bd (aj v3 1) fun v6=>bd (lun UnOp.not v6) fun v7=>aq v7
 (LZ 214 [v2] st4 fun v8 st9=>bd2 (aO st9 1 (ao (fun i=>some (i*2,2)) (List.replicate 1 [LV.str [],i64 0]).flatten [(0,v8)])) fun v10 st11=>R (LV.tup [v10,LV.bool true]) st11)
 (bd (aW 1 x6 x20) fun v12=>bd (ldA st4 v12 1) fun v13=>LZ 118 [v5,v13] st4 fun v14 st15=>bd (aj v14 0) fun v16=>bd (aj v14 1) fun v17=>aq v17
 (LZ 214 [v2] st15 fun v18 st19=>bd2 (aO st19 1 (ao (fun i=>some (i*2,2)) (List.replicate 1 [LV.str [],i64 0]).flatten [(0,v18)])) fun v20 st21=>bd2 (ak st21 2 24 Md.rw v20 v16) fun v22 st23=>R (LV.tup [v22,LV.bool true]) st23)
 (bd (al BinOp.add x20 (i64 1)) fun v24=>P173_4 x0 x3 x6 x18 x19 v24 x54 x55 x56 R st15)))
 (bd (ldA st x3 1) fun v25=>LZ 207 [x0,v25] st fun v26 st27=>bd (bq v26) fun v28=>P173_17 x0 x3 x6 x18 x19 x20 v26 v28 (i64 0) R st27)
theorem p173_4 (x0 x3 x6 x18 x19 x20 x54 x55 x56:LV) {R:LV.RT} {st:aa} (h:w173_4 x0 x3 x6 x18 x19 x20 x54 x55 x56 R st):P173_4 x0 x3 x6 x18 x19 x20 x54 x55 x56 R st:=
 pz Bx [] h
def w173_17 (_x0:LV) (_x3:LV) (_x6:LV) (_x18:LV) (_x19:LV) (_x20:LV) (x54:LV) (x55:LV) (x56:LV) (R:LV.RT) (st:aa):Prop:=
 bd (al BinOp.lss x56 x55) fun v0=>aq v0
 (bd (aW 1 x54 x56) fun v1=>bd (ld1 st v1) fun v2=>LZ 214 [v2] st fun v3 st4=>bd2 (aO st4 1 (ao (fun i=>some (i*2,2)) (List.replicate 1 [LV.str [],i64 0]).flatten [(0,v3)])) fun v5 st6=>R (LV.tup [v5,LV.bool true]) st6)
 (R (LV.tup [LV.nils,LV.bool false]) st)
theorem p173_17 (x0 x3 x6 x18 x19 x20 x54 x55 x56:LV) {R:LV.RT} {st:aa} (h:w173_17 x0 x3 x6 x18 x19 x20 x54 x55 x56 R st):P173_17 x0 x3 x6 x18 x19 x20 x54 x55 x56 R st:=
 pz Bx [] h
def P174_3 (x0 x2 x12 x13 x14:LV) (R:LV.RT) (st:aa):Prop:=LTg Tryz.prog (kindOf false) [.tmp 6,.tmp 7] (bg Tryz.f174 3) [] R (x0::.aM::x2::(LV.jk 9 (x12::x13::x14::(LV.jk 26 [])))) st
def P174_7 (x0 x2 x8 x10 x11 x12 x13 x14:LV) (R:LV.RT) (st:aa):Prop:=LTg Tryz.prog (kindOf false) [.tmp 6,.tmp 7] (bg Tryz.f174 7) [] R (x0::.aM::x2::(LV.jk 5 (x8::.aM::x10::x11::x12::x13::x14::(LV.jk 26 [])))) st
def Bz:List Nat:=(LV.gx 1 40 [2,12,13,14])
def BA:List (Nat × List Nat):=[(4,(LV.gx 1 40 [2,8,10,11,12,13,14]))]
def w174 (a0 a1 a2:LV) (R:LV.RT) (st:aa):Prop:=
 bd (bq a1) fun v0=>P174_3 a0 a2 a1 v0 (i64 0) R st
theorem c174 (a0 a1 a2:LV) {R:LV.RT} {st:aa} (h:w174 a0 a1 a2 R st):LZ 174 [a0,a1,a2] st R:=
 cz Bz BA [.tmp 6,.tmp 7] Tryz.func174 h
def w174_3 (x0 x2 x12 x13 x14:LV) (R:LV.RT) (st:aa):Prop:=
 bd (al BinOp.lss x14 x13) fun v0=>aq v0
 (bd (aW 1 x12 x14) fun v1=>bd (ldA st v1 1) fun v2=>nw st [LV.nili] fun v3 st4=>bd2 (lmk (stV st4 1 v3 v2)) fun _v5 st6=>bd (bq x0) fun v7=>bd (al BinOp.sub v7 (i64 1)) fun v8=>bd (jC [x14,v8]) fun v9=>bd (aW 1 x0 v9) fun v10=>bd (ld1 st6 v10) fun v11=>bd (ldA st6 v3 1) fun v12=>LZ 118 [v11,v12] st6 fun v13 st14=>bd (aj v13 0) fun v15=>bd (aj v13 1) fun v16=>P174_7 x0 x2 x14 v15 v16 x12 x13 x14 R st14)
 (R (LV.tup [LV.nils,LV.bool false]) st)
theorem p174_3 (x0 x2 x12 x13 x14:LV) {R:LV.RT} {st:aa} (h:w174_3 x0 x2 x12 x13 x14 R st):P174_3 x0 x2 x12 x13 x14 R st:=
 pz Bz BA h
def w174_7 (x0 x2 x8 x10 x11 x12 x13 x14:LV) (R:LV.RT) (st:aa):Prop:=
 aq x11
 (bd (aW 2 x2 x8) fun v0=>bd (ldA st v0 2) fun v1=>bd2 (aO st 1 (ao (fun i=>some (i*2,2)) (List.replicate 1 [LV.str [],i64 0]).flatten [(0,v1)])) fun v2 st3=>bd2 (ak st3 2 24 Md.rw v2 x10) fun v4 st5=>R (LV.tup [v4,LV.bool true]) st5)
 (bd (al BinOp.add x14 (i64 1)) fun v6=>P174_3 x0 x2 x12 x13 v6 R st)
theorem p174_7 (x0 x2 x8 x10 x11 x12 x13 x14:LV) {R:LV.RT} {st:aa} (h:w174_7 x0 x2 x8 x10 x11 x12 x13 x14 R st):P174_7 x0 x2 x8 x10 x11 x12 x13 x14 R st:=
 pz Bz BA h
def P175_4 (x3 x6 x7 x8:LV) (R:LV.RT) (st:aa):Prop:=LTg Tryz.prog (kindOf false) [.tmp 2] (bg Tryz.f175 4) [] R (LV.jk 3 (x3::.aM::.aM::x6::x7::x8::(LV.jk 10 []))) st
def ED:List Nat:=(LV.gx 0 19 [3,6,7,8])
def w175 (a0:LV) (R:LV.RT) (st:aa):Prop:=
 bd (bq a0) fun v0=>P175_4 LV.nils a0 v0 (i64 0) R st
theorem c175 (a0:LV) {R:LV.RT} {st:aa} (h:w175 a0 R st):LZ 175 [a0] st R:=
 cz ED [] [.tmp 2] Tryz.func175 h
def w175_4 (x3 x6 x7 x8:LV) (R:LV.RT) (st:aa):Prop:=
 bd (al BinOp.lss x8 x7) fun v0=>aq v0
 (bd (aW 1 x6 x8) fun v1=>bd (ld1 st v1) fun v2=>LZ 214 [v2] st fun v3 st4=>bd2 (aO st4 1 (ao (fun i=>some (i*2,2)) (List.replicate 1 [LV.str [],i64 0]).flatten [(0,v3)])) fun v5 st6=>bd2 (ak st6 2 24 Md.rw x3 v5) fun v7 st8=>bd (al BinOp.add x8 (i64 1)) fun v9=>P175_4 v7 x6 x7 v9 R st8)
 (R x3 st)
theorem p175_4 (x3 x6 x7 x8:LV) {R:LV.RT} {st:aa} (h:w175_4 x3 x6 x7 x8 R st):P175_4 x3 x6 x7 x8 R st:=
 pz ED [] h
def P176_4 (x3 x5 x6:LV) (R:LV.RT) (st:aa):Prop:=LTg Tryz.prog (kindOf false) [.tmp 2] (bg Tryz.f176 4) [] R (LV.jk 3 (x3::.aM::x5::x6::(LV.jk 9 []))) st
def EE:List Nat:=(LV.gx 0 16 [3,5,6])
def w176 (a0:LV) (R:LV.RT) (st:aa):Prop:=
 P176_4 LV.nils a0 (i64 0) R st
theorem c176 (a0:LV) {R:LV.RT} {st:aa} (h:w176 a0 R st):LZ 176 [a0] st R:=
 cz EE [] [.tmp 2] Tryz.func176 h
def w176_4 (x3 x5 x6:LV) (R:LV.RT) (st:aa):Prop:=
 bd (al BinOp.lss x6 x5) fun v0=>aq v0
 (LZ 215 [x6] st fun v1 st2=>bd2 (aO st2 1 (ao (fun i=>some (i*2,2)) (List.replicate 1 [LV.str [],i64 0]).flatten [(0,v1)])) fun v3 st4=>bd2 (ak st4 2 24 Md.rw x3 v3) fun v5 st6=>bd (al BinOp.add x6 (i64 1)) fun v7=>P176_4 v5 x5 v7 R st6)
 (R x3 st)
theorem p176_4 (x3 x5 x6:LV) {R:LV.RT} {st:aa} (h:w176_4 x3 x5 x6 R st):P176_4 x3 x5 x6 R st:=
 pz EE [] h
def w212 (a0:LV) (R:LV.RT) (st:aa):Prop:=
 bd2 (cL st a0) fun v0 st1=>bd (ldA st1 v0 1) fun v2=>LZ 98 [v2] st1 fun v3 st4=>bd (aj v3 0) fun v5=>bd (aj v3 1) fun v6=>LZ 93 [v5,i64 0] st4 fun v7 st8=>bd (aj v7 0) fun v9=>bd (aj v7 1) fun v10=>nw st8 [LV.nili] fun v11 st12=>bd2 (lmk (stV st12 1 v11 v9)) fun _v13 st14=>aq v6 (bd (al BinOp.eql v10 (i64 0)) fun v15=>R v15 st14) (R (LV.bool false) st14)
theorem c212 (a0:LV) {R:LV.RT} {st:aa} (h:w212 a0 R st):LZ 212 [a0] st R:=
 cz [] [] [.tmp 2] Tryz.func212 h
def P158_3 (x0 x1 x7 x8:LV) (R:LV.RT) (st:aa):Prop:=LTg Tryz.prog (kindOf false) [.tmp 4] (bg Tryz.f158 3) [] R (x0::x1::(LV.jk 5 (x7::x8::(LV.jk 10 [])))) st
def EF:List Nat:=(LV.gx 2 17 [7,8])
def w158 (a0 a1:LV) (R:LV.RT) (st:aa):Prop:=
 bd (bq a0) fun v0=>P158_3 a0 a1 v0 (i64 0) R st
theorem c158 (a0 a1:LV) {R:LV.RT} {st:aa} (h:w158 a0 a1 R st):LZ 158 [a0,a1] st R:=
 cz EF [] [.tmp 4] Tryz.func158 h
def w158_3 (x0 x1 x7 x8:LV) (R:LV.RT) (st:aa):Prop:=
 bd (al BinOp.lss x8 x7) fun v0=>aq v0 (bd (aW 1 x0 x8) fun v1=>bd (ld1 st v1) fun v2=>bd (bF BinOp.eql x1 v2) fun v3=>aq v3 (R x8 st) (bd (al BinOp.add x8 (i64 1)) fun v4=>P158_3 x0 x1 x7 v4 R st))
 (R (i64 (-1)) st)
theorem p158_3 (x0 x1 x7 x8:LV) {R:LV.RT} {st:aa} (h:w158_3 x0 x1 x7 x8 R st):P158_3 x0 x1 x7 x8 R st:=
 pz EF [] h
def P207_5 (x0 x3 x5 x15 x16 x17:LV) (R:LV.RT) (st:aa):Prop:=LTg Tryz.prog (kindOf false) [.tmp 4] (bg Tryz.f207 5) [] R (x0::.aM::.aM::x3::.aM::x5::(LV.jk 9 (x15::x16::x17::(LV.jk 28 [])))) st
def EG:List Nat:=(LV.gx 1 45 [3,5,15,16,17])
def w207 (a0 a1:LV) (R:LV.RT) (st:aa):Prop:=
 bd2 (cL st a1) fun v0 st1=>bd (eqB BinOp.neq (eN true a0 LV.nilp)) fun v2=>aq v2 (bd (ah a0) fun v3=>bd (ad 2 v3) fun v4=>bd (ld1 st1 v4) fun v5=>bd (bq v5) fun v6=>P207_5 a0 v0 LV.nils v5 v6 (i64 0) R st1) (R LV.nils st1)
theorem c207 (a0 a1:LV) {R:LV.RT} {st:aa} (h:w207 a0 a1 R st):LZ 207 [a0,a1] st R:=
 cz EG [] [.tmp 4] Tryz.func207 h
def w207_5 (x0 x3 x5 x15 x16 x17:LV) (R:LV.RT) (st:aa):Prop:=
 bd (al BinOp.lss x17 x16) fun v0=>aq v0
 (bd (aW 1 x15 x17) fun v1=>bd (ld1 st v1) fun v2=>bd (ldA st x3 1) fun v3=>LZ 50 [v3,v2] st fun v4 st5=>bd (aj v4 0) fun v6=>bd (aj v4 1) fun v7=>nw st5 [LV.nili] fun v8 st9=>bd2 (lmk (stV st9 1 v8 v6)) fun _v10 st11=>bd (lun UnOp.not v7) fun v12=>aq v12
 (bd (ah x0) fun v13=>bd (ad 3 v13) fun v14=>bd (ld1 st11 v14) fun v15=>bd (aW 1 v15 x17) fun v16=>bd (ld1 st11 v16) fun v17=>bd (lun UnOp.not v17) fun v18=>aq v18
 (bd2 (aO st11 1 (ao (fun i=>some (i*1,1)) (List.replicate 1 [LV.str []]).flatten [(0,v2)])) fun v19 st20=>bd2 (ak st20 1 16 Md.rw x5 v19) fun v21 st22=>bd (al BinOp.add x17 (i64 1)) fun v23=>P207_5 x0 x3 v21 x15 x16 v23 R st22)
 (bd (al BinOp.add x17 (i64 1)) fun v24=>P207_5 x0 x3 x5 x15 x16 v24 R st11))
 (bd (al BinOp.add x17 (i64 1)) fun v25=>P207_5 x0 x3 x5 x15 x16 v25 R st11))
 (R x5 st)
theorem p207_5 (x0 x3 x5 x15 x16 x17:LV) {R:LV.RT} {st:aa} (h:w207_5 x0 x3 x5 x15 x16 x17 R st):P207_5 x0 x3 x5 x15 x16 x17 R st:=
 pz EG [] h
def w214 (a0:LV) (R:LV.RT) (st:aa):Prop:=
 nw st [LV.str [],i64 0] fun v0 st1=>bd (aP (ao (az [(0,1),(1,1)]) [LV.str [],i64 0] [(0,a0),(1,i64 (-1))])) fun v2=>bd2 (lmk (stV st1 2 v0 v2)) fun _v3 st4=>bd (ldA st4 v0 2) fun v5=>R v5 st4
theorem c214 (a0:LV) {R:LV.RT} {st:aa} (h:w214 a0 R st):LZ 214 [a0] st R:=
 cz [] [] [.cell 2 141] Tryz.func214 h
def w215 (a0:LV) (R:LV.RT) (st:aa):Prop:=
 nw st [LV.str [],i64 0] fun v0 st1=>bd (aP (ao (az [(0,1),(1,1)]) [LV.str [],i64 0] [(1,a0)])) fun v2=>bd2 (lmk (stV st1 2 v0 v2)) fun _v3 st4=>bd (ldA st4 v0 2) fun v5=>R v5 st4
theorem c215 (a0:LV) {R:LV.RT} {st:aa} (h:w215 a0 R st):LZ 215 [a0] st R:=
 cz [] [] [.cell 2 141] Tryz.func215 h
end Go.Proofs.YtknegckgmklnhaaGreatDoor
namespace Go.CP
inductive T where
 | null|unknown
 | bool (b:Bool)
 | int (n:Int)
 | point (a b:Int)
 | text (s:List UInt8)
 | list (l:List T)
 | map (es:List (List UInt8 × T))
namespace T
def kind:T→Int
 | null=>0
 | unknown=>1
 | bool _=>2
 | int _=>3
 | point _ _=>4
 | text _=>5
 | list _=>6
 | map _=>7
def keys:T→List (List UInt8)
 | map es=>es.map (·.1)
 | _=>[]
def items:T→List T
 | list l=>l
 | map es=>es.map (·.2)
 | _=>[]
theorem qJ {t x:T} (h:x ∈ t.items):SizeOf.sizeOf x<SizeOf.sizeOf t:=by
 cases t<;>simp only[items,List.not_mem_nil] at h
 ·have:=List.sizeOf_lt_of_mem h
  simp;omega
 ·obtain ⟨e,he,rfl⟩:=List.mem_map.1 h
  have h1:=List.sizeOf_lt_of_mem he
  obtain ⟨k,v⟩:=e
  simp at h1 ⊢;omega
end T
def fb (n:Int):Nat:=FloatKind.f64.nearest n
abbrev ltB (a b:List UInt8):Prop:=Op.bytesLess a b=true
def big:Nat:=2 ^ 30
mutual
def T.ok:T→Prop
 | .int n=>-9223372036854775808≤n∧n<9223372036854775808
 | .point a b=>(-9007199254740992≤a∧a≤9007199254740992)∧(-9007199254740992≤b∧b≤9007199254740992)
 | .text s=>s.length≤big
 | .list l=>l.length≤big∧T.oks l
 | .map es=>es.length≤big∧T.okm es∧(es.map (·.1)).Pairwise ltB
 | _=>True
def T.oks:List T→Prop
 | []=>True
 | t::ts=>T.ok t∧T.oks ts
def T.okm:List (List UInt8 × T)→Prop
 | []=>True
 | e::es=>(e.1.length≤big∧T.ok e.2)∧T.okm es
end
theorem T.jt:∀ {l:List T},T.oks l↔∀ t ∈ l,t.ok
 | []=>by simp[T.oks]
 | t::ts=>by simp[T.oks,T.jt (l:=ts)]
theorem T.kS:∀ {l:List (List UInt8 × T)},T.okm l↔∀ e ∈ l,e.1.length≤big∧e.2.ok
 | []=>by simp[T.okm]
 | t::ts=>by simp[T.okm,T.kS (l:=ts)]
theorem kT:∀ x:List UInt8,Op.bytesLess x x=false
 | []=>rfl
 | a::x=>by simp[Op.bytesLess,kT x]
theorem iT:∀ {x y z:List UInt8},Op.bytesLess x y=true→Op.bytesLess y z=true→Op.bytesLess x z=true
 | _,_,[],_,h=>by simp[Op.bytesLess] at h
 | _,[],_::_,h,_=>by simp[Op.bytesLess] at h
 | [],_::_,_::_,_,_=>rfl
 | a::x,b::y,c::z,h,k=>by
  simp only[Op.bytesLess,Bool.or_eq_true,decide_eq_true_eq,Bool.and_eq_true,beq_iff_eq,UInt8.lt_iff_toNat_lt] at h k ⊢
  rcases h with h|⟨rfl,h⟩
  ·rcases k with k|⟨rfl,k⟩
   ·left;omega
   ·left;exact h
  ·rcases k with k|⟨rfl,k⟩
   ·left;exact k
   ·right;exact ⟨rfl,iT h k⟩
theorem qK:∀ {x y:List UInt8},Op.bytesLess x y=false→Op.bytesLess y x=false→x=y
 | [],[],_,_=>rfl
 | [],_::_,h,_=>by simp[Op.bytesLess] at h
 | _::_,[],_,h=>by simp[Op.bytesLess] at h
 | a::x,b::y,h,k=>by
  simp only[Op.bytesLess,Bool.or_eq_false_iff,decide_eq_false_iff_not,Bool.and_eq_false_iff,UInt8.lt_iff_toNat_lt] at h k
  have e:a=b:=UInt8.toNat_inj.1 (by omega)
  subst e
  simp only[beq_self_eq_true,Bool.true_eq_false,false_or] at h k
  rw[qK h.2 k.2]
theorem vu {x y:List UInt8} (h:Op.bytesLess x y=true):Op.bytesLess y x=false:=by
 rw[Bool.eq_false_iff]
 intro k
 have:=iT h k
 rw[kT] at this;cases this
theorem qL {a b:List UInt8} (h:ltB a b):a≠b:=fun e=>by subst e;unfold ltB at h;rw[kT] at h;cases h
theorem cQ {l:List (List UInt8)} (h:l.Pairwise ltB):l.Nodup:=h.imp qL
def T.find (es:List (List UInt8 × T)) (k:List UInt8):Option T:=(es.find? fun e=>e.1==k).map (·.2)
def T.at (t:T) (k:List UInt8):Option T:=match t with
 | .map es=>T.find es k
 | _=>none
theorem T.iU {t:T} (h:t.ok):∀ x ∈ t.items,x.ok:=by
 cases t<;>simp only[T.items,List.not_mem_nil,false_implies,implies_true]
 ·simp only[T.ok] at h;exact T.jt.1 h.2
 ·simp only[T.ok] at h
  intro x hx
  obtain ⟨e,he,rfl⟩:=List.mem_map.1 hx
  exact (T.kS.1 h.2.1 e he).2
theorem T.mO {es:List (List UInt8 × T)} {k:List UInt8} {t:T} (h:T.find es k=some t):(k,t) ∈ es:=by
 unfold T.find at h
 obtain ⟨e,he,rfl⟩:=Option.map_eq_some_iff.1 h
 have h1:=List.mem_of_find?_eq_some he
 have h2:=List.find?_some he
 simp only[beq_iff_eq] at h2
 subst h2;exact h1
theorem T.ko {es:List (List UInt8 × T)} (hn:(es.map (·.1)).Nodup) {k:List UInt8} {t:T} (h:(k,t) ∈ es):T.find es k=some t:=by
 induction es with
 | nil=>cases h
 | cons e es ih=>
  simp only[List.map_cons,List.nodup_cons] at hn
  rcases List.mem_cons.1 h with rfl|h
  ·simp[T.find]
  ·have hne:e.1≠k:=fun c=>hn.1 (c ▸ List.mem_map.2 ⟨_,h,rfl⟩)
   have:=ih hn.2 h
   unfold T.find at this ⊢
   rw[List.find?_cons_of_neg (by simpa using hne)];exact this
theorem T.Ae {es:List (List UInt8 × T)} {k:List UInt8}:T.find es k=none↔k ∉ es.map (·.1):=by
 unfold T.find
 simp only[Option.map_eq_none_iff,List.find?_eq_none,beq_iff_eq,List.mem_map,not_exists,not_and]
end Go.CP
