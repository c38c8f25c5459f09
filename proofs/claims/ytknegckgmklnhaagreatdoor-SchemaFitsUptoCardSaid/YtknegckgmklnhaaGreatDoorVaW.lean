/- Parts of the proof. -/
import Derived.Test.YtknegckgmklnhaaGreatDoorProg
import Derived.Test.YtknegckgmklnhaaGreatDoorCp42
namespace Go.Proofs.YtknegckgmklnhaaGreatDoor
open Go Go.CP
abbrev i64 (n:Int):LV:=.int .i64 n
abbrev LZ (f:FuncId) (xs:List LV) (st:aa) (R:LV.RT):Prop:=az Tryz.prog f xs st R
set_option maxRecDepth 100000
theorem aO:Tryz.prog.follows .mixedOrders=true:=by kernel_rfl
def BS (x1 x3 x4 x5:LV) (R:LV.RT) (st:aa):Prop:=LT Tryz.prog [.tmp 2] (cj Tryz.f24 1) R (.aL::x1::.aL::x3::x4::x5::(LV.jk 68 [])) st
def xE (x1 x3 x4 x5:LV) (R:LV.RT) (st:aa):Prop:=LT Tryz.prog [.tmp 2] (cj Tryz.f24 4) R (.aL::x1::.aL::x3::x4::x5::(LV.jk 68 [])) st
def xF (x1 x2 x5 x6:LV) (R:LV.RT) (st:aa):Prop:=LT Tryz.prog [.cell 2 57] (cj Tryz.f29 2) R (.aL::x1::x2::.aL::.aL::x5::x6::(LV.jk 66 [])) st
def BT (x1 x4 x6 x18 x19 x20:LV) (R:LV.RT) (st:aa):Prop:=LT Tryz.prog [.cell 4 57,.tmp 5] (cj Tryz.f72 1) R (.aL::x1::.aL::.aL::x4::.aL::x6::(LV.jk 11 (x18::x19::x20::(LV.jk 22 [])))) st
def BU (x1 x3 x4:LV) (R:LV.RT) (st:aa):Prop:=LT Tryz.prog [.tmp 2] (cj Tryz.f85 1) R (.aL::x1::.aL::x3::x4::(LV.jk 16 [])) st
def BV (x1 x3 x4:LV) (R:LV.RT) (st:aa):Prop:=LT Tryz.prog [.tmp 2] (cj Tryz.f86 1) R (.aL::x1::.aL::x3::x4::(LV.jk 17 [])) st
def rH (x5 x6 x26 x27 x28:LV) (R:LV.RT) (st:aa):Prop:=LT Tryz.prog [.tmp 2] (cj Tryz.f101 1) R (LV.jk 5 (x5::x6::(LV.jk 19 (x26::x27::x28::(LV.jk 11 []))))) st
def w24 (a0:LV) (R:LV.RT) (st:aa):Prop:=
 bd2 (ca st a0) fun v0 st1=>bd (ad 5 v0) fun v2=>bd (ld1 st1 v2) fun v3=>bd (bg v3) fun v4=>bd (ah BinOp.sub v4 (LV.int IntKind.i64 70)) fun v5=>bd (gF [v5,LV.int IntKind.i64 0]) fun v6=>bd
 (ad 6 v0) fun v7=>bd (ld1 st1 v7) fun v8=>bd (bg v8) fun v9=>bd (ah BinOp.sub v9 (LV.int IntKind.i64 70)) fun v10=>bd (gF [v10,LV.int IntKind.i64 0]) fun v11=>bd (ah BinOp.add v6 v11) fun v12=>bd (ad 4 v0) fun v13=>bd (ld1 st1 v13) fun v14=>bd (bK v14) fun v15=>bd (ah BinOp.sub v15 (LV.int IntKind.i64 300)) fun v16=>bd (gF [v16,LV.int IntKind.i64 0]) fun v17=>bd (ah BinOp.add v12 v17)
 fun v18=>bd (ldA st1 v0 7) fun v19=>bd (ldA st1 v0 7) fun v20=>LZ 85 [v19] st1 fun v21 st22=>ldA st22 v0 7=some v20∧ld1 st22 v13=some v14∧ld1 st22 v7=some v8∧ld1 st22 v2=some v3∧bd
 (ah BinOp.sub v21 (LV.int IntKind.i64 200)) fun v23=>bd (gF [v23,LV.int IntKind.i64 0]) fun v24=>bd (ah BinOp.add v18 v24) fun v25=>LZ 86 [v20] st22 fun v26 st27=>ld1 st27 v13=some v14∧
 ld1 st27 v7=some v8∧ld1 st27 v2=some v3∧bd (ah BinOp.sub v26 (LV.int IntKind.i64 12)) fun v28=>bd (gF [v28,LV.int IntKind.i64 0]) fun v29=>bd (ah BinOp.add v25 v29) fun v30=>BS v0 v30 (LV.int
 IntKind.i64 0) (LV.tup []) R st27
theorem KQ (a0:LV) (R:LV.RT) (st:aa):cQ Tryz.prog [.tmp 2] R [0,2,6,7,8,9,10,11,12,13,14,15,16,17,18,19,20,21,22,23,24,25,26,27,28,29,30,31,32,33,34,35,36,37,38,39,40,41,42,43,44,45,46,47,48,49,50,51,52,53,54,55,56,57,58,59,60,61,62,63,64,65,66,67,68,69,70,71,72,73] [] 3000 [.code (bz Tryz.f24)] ([a0]++List.replicate (Tryz.f24.ntmps-1) aM) st=w24 a0 R st:=by kernel_rfl
theorem c24 (a0:LV) {R:LV.RT} {st:aa} (h:w24 a0 R st):LZ 24 [a0] st R:=
 az.of aO Tryz.func24 (show Tryz.f24.body=some (bz Tryz.f24) by kernel_rfl) (by kernel_rfl) (show Tryz.f24.results.toList=[.tmp 2] by kernel_rfl) (bp aO 3000 (Eq.mpr (KQ a0 R st) h))
def xG (x1 x3 x4 x5:LV) (R:LV.RT) (st:aa):Prop:=
 bd (ad 6 x1) fun v0=>bd (ld1 st v0) fun v1=>bd (bg v1) fun v2=>bd (ah BinOp.lss x4 v2) fun v3=>ak v3 (bd (ah BinOp.lss x4 (LV.int IntKind.i64 80)) fun v4=>ak v4 (bd (ad 6 x1) fun v5=>bd (ld1
 st v5) fun v6=>bd (aK 1 v6 x4) fun v7=>bd (ld1 st v7) fun v8=>bd (bK v8) fun v9=>bd (ah BinOp.sub v9 (LV.int IntKind.i64 300)) fun v10=>bd (gF [v10,LV.int IntKind.i64 0]) fun v11=>bd (ah
 BinOp.add x3 v11) fun v12=>bd (ah BinOp.add x4 (LV.int IntKind.i64 1)) fun v13=>BS x1 v12 v13 x5 R st) (xE x1 x3 x4 (LV.int IntKind.i64 0) R st)) (xE x1 x3 x4 (LV.int IntKind.i64 0) R st)
theorem ES (x1 x3 x4 x5:LV) (R:LV.RT) (st:aa):cQ Tryz.prog [.tmp 2] R [0,2,6,7,8,9,10,11,12,13,14,15,16,17,18,19,20,21,22,23,24,25,26,27,28,29,30,31,32,33,34,35,36,37,38,39,40,41,42,43,44,45,46,47,48,49,50,51,52,53,54,55,56,57,58,59,60,61,62,63,64,65,66,67,68,69,70,71,72,73] [] 3000 (dH (cj Tryz.f24 1)) (.aL::x1::.aL::x3::x4::x5::(LV.jk 68 [])) st=xG x1 x3 x4 x5 R st:=by kernel_rfl
theorem ET (x1 x3 x4 x5:LV) {R:LV.RT} {st:aa} (h:xG x1 x3 x4 x5 R st):BS x1 x3 x4 x5 R st:=
 LT.at aO 3000 (Eq.mpr (ES x1 x3 x4 x5 R st) h)
def xH (x1 x3 x4 x5:LV) (R:LV.RT) (st:aa):Prop:=
 bd (ad 5 x1) fun v0=>bd (ld1 st v0) fun v1=>bd (bg v1) fun v2=>bd (ah BinOp.lss x5 v2) fun v3=>ak v3 (bd (ah BinOp.eql x3 (LV.int IntKind.i64 0)) fun v4=>ak v4 (bd (ad 5 x1) fun v5=>bd (ld1
 st v5) fun v6=>bd (aK 7 v6 x5) fun v7=>bd (ldA st v7 7) fun v8=>LZ 24 [v8] st fun v9 st10=>bd (ah BinOp.add x3 v9) fun v11=>bd (ah BinOp.add x5 (LV.int IntKind.i64 1)) fun v12=>xE x1
 v11 x4 v12 R st10) (R x3 st)) (R x3 st)
theorem EU (x1 x3 x4 x5:LV) (R:LV.RT) (st:aa):cQ Tryz.prog [.tmp 2] R [0,2,6,7,8,9,10,11,12,13,14,15,16,17,18,19,20,21,22,23,24,25,26,27,28,29,30,31,32,33,34,35,36,37,38,39,40,41,42,43,44,45,46,47,48,49,50,51,52,53,54,55,56,57,58,59,60,61,62,63,64,65,66,67,68,69,70,71,72,73] [] 3000 (dH (cj Tryz.f24 4)) (.aL::x1::.aL::x3::x4::x5::(LV.jk 68 [])) st=xH x1 x3 x4 x5 R st:=by kernel_rfl
theorem EV (x1 x3 x4 x5:LV) {R:LV.RT} {st:aa} (h:xH x1 x3 x4 x5 R st):xE x1 x3 x4 x5 R st:=
 LT.at aO 3000 (Eq.mpr (EU x1 x3 x4 x5 R st) h)
def w85 (a0:LV) (R:LV.RT) (st:aa):Prop:=
 bd2 (ca st a0) fun v0 st1=>BU v0 (LV.int IntKind.i64 1) (LV.int IntKind.i64 0) R st1
theorem KR (a0:LV) (R:LV.RT) (st:aa):cQ Tryz.prog [.tmp 2] R [0,2,5,6,7,8,9,10,11,12,13,14,15,16,17,18,19,20] [] 3000 [.code (bz Tryz.f85)] ([a0]++List.replicate (Tryz.f85.ntmps-1) aM) st=w85 a0 R st:=by kernel_rfl
theorem c85 (a0:LV) {R:LV.RT} {st:aa} (h:w85 a0 R st):LZ 85 [a0] st R:=
 az.of aO Tryz.func85 (show Tryz.f85.body=some (bz Tryz.f85) by kernel_rfl) (by kernel_rfl) (show Tryz.f85.results.toList=[.tmp 2] by kernel_rfl) (bp aO 3000 (Eq.mpr (KR a0 R st) h))
def BW (x1 x3 x4:LV) (R:LV.RT) (st:aa):Prop:=
 bd (ad 5 x1) fun v0=>bd (ld1 st v0) fun v1=>bd (bg v1) fun v2=>bd (ah BinOp.lss x4 v2) fun v3=>ak v3 (bd (ad 5 x1) fun v4=>bd (ld1 st v4) fun v5=>bd (aK 7 v5 x4) fun v6=>bd (ldA st v6 7) fun
 v7=>LZ 85 [v7] st fun v8 st9=>bd (ah BinOp.add x3 v8) fun v10=>bd (ah BinOp.add x4 (LV.int IntKind.i64 1)) fun v11=>BU x1 v10 v11 R st9) (R x3 st)
theorem EW (x1 x3 x4:LV) (R:LV.RT) (st:aa):cQ Tryz.prog [.tmp 2] R [0,2,5,6,7,8,9,10,11,12,13,14,15,16,17,18,19,20] [] 3000 (dH (cj Tryz.f85 1)) (.aL::x1::.aL::x3::x4::(LV.jk 16 [])) st=BW x1 x3 x4 R st:=by kernel_rfl
theorem JL (x1 x3 x4:LV) {R:LV.RT} {st:aa} (h:BW x1 x3 x4 R st):BU x1 x3 x4 R st:=
 LT.at aO 3000 (Eq.mpr (EW x1 x3 x4 R st) h)
def w86 (a0:LV) (R:LV.RT) (st:aa):Prop:=
 bd2 (ca st a0) fun v0 st1=>BV v0 (LV.int IntKind.i64 0) (LV.int IntKind.i64 0) R st1
theorem KS (a0:LV) (R:LV.RT) (st:aa):cQ Tryz.prog [.tmp 2] R [0,2,5,6,7,8,9,10,11,12,13,14,15,16,17,18,19,20,21] [] 3000 [.code (bz Tryz.f86)] ([a0]++List.replicate (Tryz.f86.ntmps-1) aM) st=w86 a0 R st:=by kernel_rfl
theorem c86 (a0:LV) {R:LV.RT} {st:aa} (h:w86 a0 R st):LZ 86 [a0] st R:=
 az.of aO Tryz.func86 (show Tryz.f86.body=some (bz Tryz.f86) by kernel_rfl) (by kernel_rfl) (show Tryz.f86.results.toList=[.tmp 2] by kernel_rfl) (bp aO 3000 (Eq.mpr (KS a0 R st) h))
def BX (x1 x3 x4:LV) (R:LV.RT) (st:aa):Prop:=
 bd (ad 5 x1) fun v0=>bd (ld1 st v0) fun v1=>bd (bg v1) fun v2=>bd (ah BinOp.lss x4 v2) fun v3=>ak v3 (bd (ad 5 x1) fun v4=>bd (ld1 st v4) fun v5=>bd (aK 7 v5 x4) fun v6=>bd (ldA st v6 7) fun
 v7=>LZ 86 [v7] st fun v8 st9=>bd (gF [x3,v8]) fun v10=>bd (ah BinOp.add x4 (LV.int IntKind.i64 1)) fun v11=>BV x1 v10 v11 R st9) (bd (ah BinOp.add x3 (LV.int IntKind.i64 1)) fun v12=>R
 v12 st)
theorem EX (x1 x3 x4:LV) (R:LV.RT) (st:aa):cQ Tryz.prog [.tmp 2] R [0,2,5,6,7,8,9,10,11,12,13,14,15,16,17,18,19,20,21] [] 3000 (dH (cj Tryz.f86 1)) (.aL::x1::.aL::x3::x4::(LV.jk 17 [])) st=BX x1 x3 x4 R st:=by kernel_rfl
theorem JM (x1 x3 x4:LV) {R:LV.RT} {st:aa} (h:BX x1 x3 x4 R st):BV x1 x3 x4 R st:=
 LT.at aO 3000 (Eq.mpr (EX x1 x3 x4 R st) h)
def w29 (a0:LV) (R:LV.RT) (st:aa):Prop:=
 bd2 (ca st a0) fun v0 st1=>nw st1 [LV.nili] fun v2 st3=>bd (ad 0 v0) fun v4=>bd (ld1 st3 v4) fun v5=>bd (ah BinOp.eql v5 (LV.int IntKind.i64 1)) fun v6=>ak v6 (LZ 69 [] st3 fun v7 st8=>bd2 (lmk (stV st8 1 v2 v7)) fun _v9 st10=>bd (ldA st10 v2 1) fun v11=>R v11 st10) (bd (ah BinOp.eql v5 (LV.int IntKind.i64 2)) fun v12=>ak v12 (bd (ad 1 v0) fun v13=>bd (ld1 st3 v13) fun v14=>az
 Tryz.prog 92 [v14] st3 fun v15 st16=>bd2 (lmk (stV st16 1 v2 v15)) fun _v17 st18=>bd (ldA st18 v2 1) fun v19=>R v19 st18) (bd (ah BinOp.eql v5 (LV.int IntKind.i64 3)) fun v20=>ak v20 (bd (ad 2 v0) fun v21
 => bd (ld1 st3 v21) fun v22=>LZ 73 [v22] st3 fun v23 st24=>bd2 (lmk (stV st24 1 v2 v23)) fun _v25 st26=>bd (ldA st26 v2 1) fun v27=>R v27 st26) (bd (ah BinOp.eql v5 (LV.int IntKind.i64 4)) fun v28
 => ak v28 (bd (ad 2 v0) fun v29=>bd (ld1 st3 v29) fun v30=>bd (ad 3 v0) fun v31=>bd (ld1 st3 v31) fun v32=>LZ 93 [v30,v32] st3 fun v33 st34=>bd (aj v33 0) fun v35=>bd (aj
 v33 1) fun _v36=>nw st34 [LV.nili] fun v37 st38=>bd2 (lmk (stV st38 1 v37 v35)) fun _v39 st40=>bd (ldA st40 v37 1) fun v41=>bd2 (lmk (stV st40 1 v2 v41)) fun _v42 st43=>bd (ldA st43 v2 1) fun v44=>R v44 st43)
 (bd (ah BinOp.eql v5 (LV.int IntKind.i64 5)) fun v45=>ak v45 (bd (ad 4 v0) fun v46=>bd (ld1 st3 v46) fun v47=>LZ 91 [v47] st3 fun v48 st49=>bd2 (lmk (stV st49 1 v2 v48)) fun _v50 st51=>bd
 (ldA st51 v2 1) fun v52=>R v52 st51) (bd (ah BinOp.eql v5 (LV.int IntKind.i64 6)) fun v53=>ak v53 (ak v53 (xF v0 v2 LV.nils (LV.int IntKind.i64 0) R st3) (LZ 66 [] st3 fun v54 st55=>bd2 (lmk
 (stV st55 1 v2 v54)) fun _v56 st57=>bd (ldA st57 v2 1) fun v58=>R v58 st57)) (bd (ah BinOp.eql v5 (LV.int IntKind.i64 7)) fun v59=>ak v59 (xF v0 v2 LV.nils (LV.int IntKind.i64 0) R st3) (LZ 66
 [] st3 fun v60 st61=>bd2 (lmk (stV st61 1 v2 v60)) fun _v62 st63=>bd (ldA st63 v2 1) fun v64=>R v64 st63)))))))
theorem KU (a0:LV) (R:LV.RT) (st:aa):cQ Tryz.prog [.cell 2 57] R [0,3,4,7,8,9,10,11,12,13,14,15,16,17,18,19,20,21,22,23,24,25,26,27,28,29,30,31,32,33,34,35,36,37,38,39,40,41,42,43,44,45,46,47,48,49,50,51,52,53,54,55,56,57,58,59,60,61,62,63,64,65,66,67,68,69,70,71,72] [] 3000 [.code (bz Tryz.f29)] ([a0]++List.replicate (Tryz.f29.ntmps-1) aM) st=w29 a0 R st:=by kernel_rfl
theorem c29 (a0:LV) {R:LV.RT} {st:aa} (h:w29 a0 R st):LZ 29 [a0] st R:=
 az.of aO Tryz.func29 (show Tryz.f29.body=some (bz Tryz.f29) by kernel_rfl) (by kernel_rfl) (show Tryz.f29.results.toList=[.cell 2 57] by kernel_rfl) (bp aO 3000 (Eq.mpr (KU a0 R st) h))
def BZ (x1 x2 x5 x6:LV) (R:LV.RT) (st:aa):Prop:=
 bd (ad 5 x1) fun v0=>bd (ld1 st v0) fun v1=>bd (bg v1) fun v2=>bd (ah BinOp.lss x6 v2) fun v3=>ak v3 (bd (ad 5 x1) fun v4=>bd (ld1 st v4) fun v5=>bd (aK 7 v5 x6) fun v6=>bd (ldA st v6 7) fun
 v7=>LZ 29 [v7] st fun v8 st9=>bd2 (aN st9 1 (ao (fun i=>some (i*1,1)) (List.replicate 1 [LV.nili]).flatten [(0,v8)])) fun v10 st11=>bd2 (ar st11 1 16 Md.rw x5 v10) fun v12 st13=>bd
 (ah BinOp.add x6 (LV.int IntKind.i64 1)) fun v14=>xF x1 x2 v12 v14 R st13) (bd (ad 0 x1) fun v15=>bd (ld1 st v15) fun v16=>bd (ah BinOp.eql v16 (LV.int IntKind.i64 6)) fun v17=>ak v17 (az
 Tryz.prog 94 [x5] st fun v18 st19=>bd2 (lmk (stV st19 1 x2 v18)) fun _v20 st21=>bd (ldA st21 x2 1) fun v22=>R v22 st21) (bd (ad 6 x1) fun v23=>bd (ld1 st v23) fun v24=>LZ 72 [v24,x5] st fun
 v25 st26=>bd (aj v25 0) fun v27=>bd (aj v25 1) fun _v28=>nw st26 [LV.nili] fun v29 st30=>bd2 (lmk (stV st30 1 v29 v27)) fun _v31 st32=>bd (ldA st32 v29 1) fun v33=>bd2 (lmk (stV st32 1 x2 v33))
 fun _v34 st35=>bd (ldA st35 x2 1) fun v36=>R v36 st35))
theorem EY (x1 x2 x5 x6:LV) (R:LV.RT) (st:aa):cQ Tryz.prog [.cell 2 57] R [0,3,4,7,8,9,10,11,12,13,14,15,16,17,18,19,20,21,22,23,24,25,26,27,28,29,30,31,32,33,34,35,36,37,38,39,40,41,42,43,44,45,46,47,48,49,50,51,52,53,54,55,56,57,58,59,60,61,62,63,64,65,66,67,68,69,70,71,72] [] 3000 (dH (cj Tryz.f29 2)) (.aL::x1::x2::.aL::.aL::x5::x6::(LV.jk 66 [])) st=BZ x1 x2 x5 x6 R st:=by kernel_rfl
theorem JN (x1 x2 x5 x6:LV) {R:LV.RT} {st:aa} (h:BZ x1 x2 x5 x6 R st):xF x1 x2 x5 x6 R st:=
 LT.at aO 3000 (Eq.mpr (EY x1 x2 x5 x6 R st) h)
def w66 (R:LV.RT) (st:aa):Prop:=
 nw st [LV.nili] fun v0 st1=>bd (aP (ao (aA [(0,1)]) [LV.nili] [])) fun v2=>bd2 (lmk (stV st1 1 v0 v2)) fun _v3 st4=>bd (ldA st4 v0 1) fun v5=>R v5 st4
theorem KV (R:LV.RT) (st:aa):cQ Tryz.prog [.cell 0 57] R [] [] 3000 [.code (bz Tryz.f66)] ([]++List.replicate (Tryz.f66.ntmps-0) aM) st=w66  R st:=by kernel_rfl
theorem c66 {R:LV.RT} {st:aa} (h:w66  R st):LZ 66 [] st R:=
 az.of aO Tryz.func66 (show Tryz.f66.body=some (bz Tryz.f66) by kernel_rfl) (by kernel_rfl) (show Tryz.f66.results.toList=[.cell 0 57] by kernel_rfl) (bp aO 3000 (Eq.mpr (KV  R st) h))
def w69 (R:LV.RT) (st:aa):Prop:=
 nw st [LV.nili] fun v0 st1=>bd (aP (ao (aA []) [] [])) fun v2=>bd (aP (ao (aA [(0,1)]) [LV.nili] [(0,LV.iface 169 v2)])) fun v3=>bd2 (lmk (stV st1 1 v0 v3)) fun _v4 st5=>bd (ldA st5 v0 1)
 fun v6=>R v6 st5
theorem KW (R:LV.RT) (st:aa):cQ Tryz.prog [.cell 0 57] R [] [] 3000 [.code (bz Tryz.f69)] ([]++List.replicate (Tryz.f69.ntmps-0) aM) st=w69  R st:=by kernel_rfl
theorem c69 {R:LV.RT} {st:aa} (h:w69  R st):LZ 69 [] st R:=
 az.of aO Tryz.func69 (show Tryz.f69.body=some (bz Tryz.f69) by kernel_rfl) (by kernel_rfl) (show Tryz.f69.results.toList=[.cell 0 57] by kernel_rfl) (bp aO 3000 (Eq.mpr (KW  R st) h))
def w92 (a0:LV) (R:LV.RT) (st:aa):Prop:=
 nw st [LV.nili] fun v0 st1=>bd (aP (ao (aA [(0,1)]) [LV.nili] [(0,LV.iface 4 a0)])) fun v2=>bd2 (lmk (stV st1 1 v0 v2)) fun _v3 st4=>bd (ldA st4 v0 1) fun v5=>R v5 st4
theorem KX (a0:LV) (R:LV.RT) (st:aa):cQ Tryz.prog [.cell 2 57] R [] [] 3000 [.code (bz Tryz.f92)] ([a0]++List.replicate (Tryz.f92.ntmps-1) aM) st=w92 a0 R st:=by kernel_rfl
theorem c92 (a0:LV) {R:LV.RT} {st:aa} (h:w92 a0 R st):LZ 92 [a0] st R:=
 az.of aO Tryz.func92 (show Tryz.f92.body=some (bz Tryz.f92) by kernel_rfl) (by kernel_rfl) (show Tryz.f92.results.toList=[.cell 2 57] by kernel_rfl) (bp aO 3000 (Eq.mpr (KX a0 R st) h))
def w73 (a0:LV) (R:LV.RT) (st:aa):Prop:=
 nw st [LV.nili] fun v0 st1=>bd (aP (ao (aA [(0,1)]) [LV.nili] [(0,LV.iface 3 a0)])) fun v2=>bd2 (lmk (stV st1 1 v0 v2)) fun _v3 st4=>bd (ldA st4 v0 1) fun v5=>R v5 st4
theorem KY (a0:LV) (R:LV.RT) (st:aa):cQ Tryz.prog [.cell 2 57] R [] [] 3000 [.code (bz Tryz.f73)] ([a0]++List.replicate (Tryz.f73.ntmps-1) aM) st=w73 a0 R st:=by kernel_rfl
theorem c73 (a0:LV) {R:LV.RT} {st:aa} (h:w73 a0 R st):LZ 73 [a0] st R:=
 az.of aO Tryz.func73 (show Tryz.f73.body=some (bz Tryz.f73) by kernel_rfl) (by kernel_rfl) (show Tryz.f73.results.toList=[.cell 2 57] by kernel_rfl) (bp aO 3000 (Eq.mpr (KY a0 R st) h))
def w93 (a0 a1:LV) (R:LV.RT) (st:aa):Prop:=
 nw st [LV.nili] fun v0 st1=>LZ 156 [a0] st1 fun v2 st3=>bd (lun UnOp.not v2) fun v4=>ak v4 (bd (aP (ao (aA [(0,1)]) [LV.nili] [])) fun v5=>bd2 (lmk (stV st3 1 v0 v5)) fun _v6 st7=>bd
 (ldA st7 v0 1) fun v8=>R (LV.tup [v8,LV.int IntKind.i64 2]) st7) (LZ 156 [a1] st3 fun v9 st10=>bd (lun UnOp.not v9) fun v11=>ak v11 (bd (aP (ao (aA [(0,1)]) [LV.nili] [])) fun v12=>bd2 (lmk (stV st10 1 v0 v12)) fun _v13 st14=>bd (ldA st14 v0 1) fun v15=>R (LV.tup [v15,LV.int IntKind.i64 2]) st14) (bd (Dh FloatKind.f64 a0) fun v16=>bd (Dh FloatKind.f64 a1) fun v17=>bd (BB v16 v17)
 fun v18=>bd (aP (ao (aA [(0,1)]) [LV.nili] [(0,LV.iface 170 v18)])) fun v19=>bd2 (lmk (stV st10 1 v0 v19)) fun _v20 st21=>bd (ldA st21 v0 1) fun v22=>R (LV.tup [v22,LV.int IntKind.i64 0]) st21))
theorem KZ (a0 a1:LV) (R:LV.RT) (st:aa):cQ Tryz.prog [.cell 4 57,.tmp 5] R [] [] 3000 [.code (bz Tryz.f93)] ([a0,a1]++List.replicate (Tryz.f93.ntmps-2) aM) st=w93 a0 a1 R st:=by kernel_rfl
theorem c93 (a0 a1:LV) {R:LV.RT} {st:aa} (h:w93 a0 a1 R st):LZ 93 [a0,a1] st R:=
 az.of aO Tryz.func93 (show Tryz.f93.body=some (bz Tryz.f93) by kernel_rfl) (by kernel_rfl) (show Tryz.f93.results.toList=[.cell 4 57,.tmp 5] by kernel_rfl) (bp aO 3000 (Eq.mpr (KZ a0 a1 R st) h))
def w91 (a0:LV) (R:LV.RT) (st:aa):Prop:=
 nw st [LV.nili] fun v0 st1=>bd (aP (ao (aA [(0,1)]) [LV.nili] [(0,LV.iface 9 a0)])) fun v2=>bd2 (lmk (stV st1 1 v0 v2)) fun _v3 st4=>bd (ldA st4 v0 1) fun v5=>R v5 st4
theorem K0 (a0:LV) (R:LV.RT) (st:aa):cQ Tryz.prog [.cell 2 57] R [] [] 3000 [.code (bz Tryz.f91)] ([a0]++List.replicate (Tryz.f91.ntmps-1) aM) st=w91 a0 R st:=by kernel_rfl
theorem c91 (a0:LV) {R:LV.RT} {st:aa} (h:w91 a0 R st):LZ 91 [a0] st R:=
 az.of aO Tryz.func91 (show Tryz.f91.body=some (bz Tryz.f91) by kernel_rfl) (by kernel_rfl) (show Tryz.f91.results.toList=[.cell 2 57] by kernel_rfl) (bp aO 3000 (Eq.mpr (K0 a0 R st) h))
def w94 (a0:LV) (R:LV.RT) (st:aa):Prop:=
 nw st [LV.nili] fun v0 st1=>LZ 157 [a0] st1 fun v2 st3=>bd (aP (ao (aA [(0,1)]) [LV.nili] [(0,LV.iface 171 v2)])) fun v4=>bd2 (lmk (stV st3 1 v0 v4)) fun _v5 st6=>bd (ldA st6 v0 1) fun
 v7=>R v7 st6
theorem K2 (a0:LV) (R:LV.RT) (st:aa):cQ Tryz.prog [.cell 2 57] R [] [] 3000 [.code (bz Tryz.f94)] ([a0]++List.replicate (Tryz.f94.ntmps-1) aM) st=w94 a0 R st:=by kernel_rfl
theorem c94 (a0:LV) {R:LV.RT} {st:aa} (h:w94 a0 R st):LZ 94 [a0] st R:=
 az.of aO Tryz.func94 (show Tryz.f94.body=some (bz Tryz.f94) by kernel_rfl) (by kernel_rfl) (show Tryz.f94.results.toList=[.cell 2 57] by kernel_rfl) (bp aO 3000 (Eq.mpr (K2 a0 R st) h))
def w72 (a0 a1:LV) (R:LV.RT) (st:aa):Prop:=
 nw st [LV.nili] fun v0 st1=>bd (bg a0) fun v2=>bd (bg a1) fun v3=>bd (ah BinOp.neq v2 v3) fun v4=>ak v4 (bd (aP (ao (aA [(0,1)]) [LV.nili] [])) fun v5=>bd2 (lmk (stV st1 1 v0 v5)) fun _v6
 st7=>bd (ldA st7 v0 1) fun v8=>R (LV.tup [v8,LV.int IntKind.i64 1]) st7) (Ex st1 fun v9 st10=>bd (bg a0) fun v11=>BT a1 v0 v9 a0 v11 (LV.int IntKind.i64 0) R st10)
theorem K3 (a0 a1:LV) (R:LV.RT) (st:aa):cQ Tryz.prog [.cell 4 57,.tmp 5] R [0,2,3,5,7,8,9,10,11,12,13,14,15,16,17,21,22,23,24,25,26,27,28,29,30,31,32,33,34,35,36,37,38,39,40,41,42] [] 3000 [.code (bz Tryz.f72)] ([a0,a1]++List.replicate (Tryz.f72.ntmps-2) aM) st=w72 a0 a1 R st:=by kernel_rfl
theorem c72 (a0 a1:LV) {R:LV.RT} {st:aa} (h:w72 a0 a1 R st):LZ 72 [a0,a1] st R:=
 az.of aO Tryz.func72 (show Tryz.f72.body=some (bz Tryz.f72) by kernel_rfl) (by kernel_rfl) (show Tryz.f72.results.toList=[.cell 4 57,.tmp 5] by kernel_rfl) (bp aO 3000 (Eq.mpr (K3 a0 a1 R st) h))
def B0 (x1 x4 x6 x18 x19 x20:LV) (R:LV.RT) (st:aa):Prop:=
 bd (ah BinOp.lss x20 x19) fun v0=>ak v0 (bd (aK 1 x18 x20) fun v1=>bd (ld1 st v1) fun v2=>bd (sO st true (some (LV.agg [LV.nili])) x6 v2 true) fun v3=>bd (aj v3 0) fun v4=>bd (aj v3 1) fun
 v5=>nw st [LV.nili] fun v6 st7=>bd2 (lmk (stV st7 1 v6 v4)) fun _v8 st9=>ak v5 (bd (aP (ao (aA [(0,1)]) [LV.nili] [])) fun v10=>bd2 (lmk (stV st9 1 x4 v10)) fun _v11 st12=>bd (ldA st12 x4 1) fun
 v13=>R (LV.tup [v13,LV.int IntKind.i64 9]) st12) (bd (aK 1 x1 x20) fun v14=>bd (ldA st9 v14 1) fun v15=>bd2 (lmk (EB st9 true x6 v2 v15)) fun _v16 st17=>bd (ah BinOp.add x20 (LV.int IntKind.i64 1)) fun v18
 => BT x1 x4 x6 x18 x19 v18 R st17)) (bd (aP (ao (aA [(0,1)]) [LV.nili] [(0,LV.iface 173 x6)])) fun v19=>bd2 (lmk (stV st 1 x4 v19)) fun _v20 st21=>bd (ldA st21 x4 1) fun v22=>R (LV.tup [v22,LV.int
 IntKind.i64 0]) st21)
theorem EZ (x1 x4 x6 x18 x19 x20:LV) (R:LV.RT) (st:aa):cQ Tryz.prog [.cell 4 57,.tmp 5] R [0,2,3,5,7,8,9,10,11,12,13,14,15,16,17,21,22,23,24,25,26,27,28,29,30,31,32,33,34,35,36,37,38,39,40,41,42] [] 3000 (dH (cj Tryz.f72 1)) (.aL::x1::.aL::.aL::x4::.aL::x6::(LV.jk 11 (x18::x19::x20::(LV.jk 22 [])))) st=B0 x1 x4 x6 x18 x19 x20 R st:=by kernel_rfl
theorem JO (x1 x4 x6 x18 x19 x20:LV) {R:LV.RT} {st:aa} (h:B0 x1 x4 x6 x18 x19 x20 R st):BT x1 x4 x6 x18 x19 x20 R st:=
 LT.at aO 3000 (Eq.mpr (EZ x1 x4 x6 x18 x19 x20 R st) h)
def Ib (a0:LV) (R:LV.RT) (st:aa):Prop:=
 bd (ah BinOp.geq a0 (LV.int IntKind.i64 (-9007199254740992))) fun v0=>ak v0 (bd (ah BinOp.leq a0 (LV.int IntKind.i64 9007199254740992)) fun v1=>R v1 st) (R (LV.bool false) st)
theorem Ic (a0:LV) (R:LV.RT) (st:aa):cQ Tryz.prog [.tmp 2] R [] [] 3000 [.code (bz Tryz.f156)] ([a0]++List.replicate (Tryz.f156.ntmps-1) aM) st=Ib a0 R st:=by kernel_rfl
theorem c156 (a0:LV) {R:LV.RT} {st:aa} (h:Ib a0 R st):LZ 156 [a0] st R:=
 az.of aO Tryz.func156 (show Tryz.f156.body=some (bz Tryz.f156) by kernel_rfl) (by kernel_rfl) (show Tryz.f156.results.toList=[.tmp 2] by kernel_rfl) (bp aO 3000 (Eq.mpr (Ic a0 R st) h))
def MH (a0:LV) (R:LV.RT) (st:aa):Prop:=
 bd (eqB BinOp.eql (uq a0 LV.nils)) fun v0=>ak v0 (R LV.nils st) (bd2 (aN st 0 (ao (fun i=>some (i*1,1)) (List.replicate 0 [LV.nili]).flatten [])) fun v1 st2=>bd2 (ar st2 1 16 Md.rw v1 a0) fun v3
 st4=>R v3 st4)
theorem Ie (a0:LV) (R:LV.RT) (st:aa):cQ Tryz.prog [.tmp 2] R [] [] 3000 [.code (bz Tryz.f157)] ([a0]++List.replicate (Tryz.f157.ntmps-1) aM) st=MH a0 R st:=by kernel_rfl
theorem c157 (a0:LV) {R:LV.RT} {st:aa} (h:MH a0 R st):LZ 157 [a0] st R:=
 az.of aO Tryz.func157 (show Tryz.f157.body=some (bz Tryz.f157) by kernel_rfl) (by kernel_rfl) (show Tryz.f157.results.toList=[.tmp 2] by kernel_rfl) (bp aO 3000 (Eq.mpr (Ie a0 R st) h))
def w46 (a0:LV) (R:LV.RT) (st:aa):Prop:=
 bd2 (ca st a0) fun v0 st1=>bd (ad 0 v0) fun v2=>bd (ld1 st1 v2) fun v3=>bd (asC 169 (some (LV.agg [])) v3 true) fun v4=>bd (aj v4 1) fun v5=>bd (aj v4 0) fun _v6=>ak v5 (R (LV.int
 IntKind.i64 1) st1) (bd (asC 4 (some (LV.bool false)) v3 true) fun v7=>bd (aj v7 1) fun v8=>bd (aj v7 0) fun _v9=>ak v8 (R (LV.int IntKind.i64 2) st1) (bd (asC 3 (some (LV.int IntKind.i64 0)) v3 true)
 fun v10=>bd (aj v10 1) fun v11=>bd (aj v10 0) fun _v12=>ak v11 (R (LV.int IntKind.i64 3) st1) (bd (asC 170 (some (LV.cplx FloatKind.f64 0 0)) v3 true) fun v13=>bd (aj v13 1) fun v14=>bd
 (aj v13 0) fun _v15=>ak v14 (R (LV.int IntKind.i64 4) st1) (bd (asC 9 (some (LV.str [])) v3 true) fun v16=>bd (aj v16 1) fun v17=>bd (aj v16 0) fun _v18=>ak v17 (R (LV.int IntKind.i64 5)
 st1) (bd (asC 171 (some LV.nils) v3 true) fun v19=>bd (aj v19 1) fun v20=>bd (aj v19 0) fun _v21=>ak v20 (R (LV.int IntKind.i64 6) st1) (bd (asC 173 (some LV.nilm) v3 true) fun v22=>bd (aj v22
 1) fun v23=>bd (aj v22 0) fun _v24=>ak v23 (R (LV.int IntKind.i64 7) st1) (R (LV.int IntKind.i64 0) st1)))))))
theorem K4 (a0:LV) (R:LV.RT) (st:aa):cQ Tryz.prog [.tmp 2] R [] [] 3000 [.code (bz Tryz.f46)] ([a0]++List.replicate (Tryz.f46.ntmps-1) aM) st=w46 a0 R st:=by kernel_rfl
theorem c46 (a0:LV) {R:LV.RT} {st:aa} (h:w46 a0 R st):LZ 46 [a0] st R:=
 az.of aO Tryz.func46 (show Tryz.f46.body=some (bz Tryz.f46) by kernel_rfl) (by kernel_rfl) (show Tryz.f46.results.toList=[.tmp 2] by kernel_rfl) (bp aO 3000 (Eq.mpr (K4 a0 R st) h))
def w49 (a0:LV) (R:LV.RT) (st:aa):Prop:=
 bd2 (ca st a0) fun v0 st1=>bd (ad 0 v0) fun v2=>bd (ld1 st1 v2) fun v3=>bd (asC 173 (some LV.nilm) v3 true) fun v4=>bd (aj v4 0) fun v5=>bd (aj v4 1) fun _v6=>LZ 116 [v5] st1
 fun v7 st8=>LZ 115 [v7] st8 fun v9 st10=>R v9 st10
theorem K5 (a0:LV) (R:LV.RT) (st:aa):cQ Tryz.prog [.tmp 2] R [] [] 3000 [.code (bz Tryz.f49)] ([a0]++List.replicate (Tryz.f49.ntmps-1) aM) st=w49 a0 R st:=by kernel_rfl
theorem c49 (a0:LV) {R:LV.RT} {st:aa} (h:w49 a0 R st):LZ 49 [a0] st R:=
 az.of aO Tryz.func49 (show Tryz.f49.body=some (bz Tryz.f49) by kernel_rfl) (by kernel_rfl) (show Tryz.f49.results.toList=[.tmp 2] by kernel_rfl) (bp aO 3000 (Eq.mpr (K5 a0 R st) h))
def MI (a0:LV) (R:LV.RT) (st:aa):Prop:=
 bd2 (ca st a0) fun v0 st1=>bd (ad 0 v0) fun v2=>bd (ld1 st1 v2) fun v3=>bd (asC 171 (some LV.nils) v3 true) fun v4=>bd (aj v4 0) fun v5=>bd (aj v4 1) fun v6=>ak v6 (LZ 159
 [v5] st1 fun v7 st8=>R v7 st8) (bd (ad 0 v0) fun v9=>bd (ld1 st1 v9) fun v10=>bd (asC 173 (some LV.nilm) v10 true) fun v11=>bd (aj v11 0) fun v12=>bd (aj v11 1) fun _v13=>bd (ldA st1 v0 1) fun
 v14=>LZ 49 [v14] st1 fun v15 st16=>bd (bg v15) fun v17=>rH LV.nils v12 v15 v17 (LV.int IntKind.i64 0) R st16)
theorem Ig (a0:LV) (R:LV.RT) (st:aa):cQ Tryz.prog [.tmp 2] R [0,1,2,3,4,7,8,9,10,11,12,13,14,15,16,17,18,19,20,21,22,23,24,25,29,30,31,32,33,34,35,36,37,38,39] [] 3000 [.code (bz Tryz.f101)] ([a0]++List.replicate (Tryz.f101.ntmps-1) aM) st=MI a0 R st:=by kernel_rfl
theorem K6 (a0:LV) {R:LV.RT} {st:aa} (h:MI a0 R st):LZ 101 [a0] st R:=
 az.of aO Tryz.func101 (show Tryz.f101.body=some (bz Tryz.f101) by kernel_rfl) (by kernel_rfl) (show Tryz.f101.results.toList=[.tmp 2] by kernel_rfl) (bp aO 3000 (Eq.mpr (Ig a0 R st) h))
def uR (x5 x6 x26 x27 x28:LV) (R:LV.RT) (st:aa):Prop:=
 bd (ah BinOp.lss x28 x27) fun v0=>ak v0 (bd (aK 1 x26 x28) fun v1=>bd (ld1 st v1) fun v2=>bd (sO st true (some (LV.agg [LV.nili])) x6 v2 false) fun v3=>bd2 (aN st 1 (ao (fun i=>some (i*1,1))
 (List.replicate 1 [LV.nili]).flatten [(0,v3)])) fun v4 st5=>bd2 (ar st5 1 16 Md.rw x5 v4) fun v6 st7=>bd (ah BinOp.add x28 (LV.int IntKind.i64 1)) fun v8=>rH v6 x6 x26 x27 v8 R st7) (R x5 st)
theorem DG (x5 x6 x26 x27 x28:LV) (R:LV.RT) (st:aa):cQ Tryz.prog [.tmp 2] R [0,1,2,3,4,7,8,9,10,11,12,13,14,15,16,17,18,19,20,21,22,23,24,25,29,30,31,32,33,34,35,36,37,38,39] [] 3000 (dH (cj Tryz.f101 1)) (LV.jk 5 (x5::x6::(LV.jk 19 (x26::x27::x28::(LV.jk 11 []))))) st=uR x5 x6 x26 x27 x28 R st:=by kernel_rfl
theorem zN (x5 x6 x26 x27 x28:LV) {R:LV.RT} {st:aa} (h:uR x5 x6 x26 x27 x28 R st):rH x5 x6 x26 x27 x28 R st:=
 LT.at aO 3000 (Eq.mpr (DG x5 x6 x26 x27 x28 R st) h)
def MJ (a0:LV) (R:LV.RT) (st:aa):Prop:=
 bd (eqB BinOp.eql (uq a0 LV.nils)) fun v0=>ak v0 (R LV.nils st) (bd2 (aN st 0 (ao (fun i=>some (i*1,1)) (List.replicate 0 [LV.nili]).flatten [])) fun v1 st2=>bd2 (ar st2 1 16 Md.rw v1 a0) fun v3
 st4=>R v3 st4)
theorem Ih (a0:LV) (R:LV.RT) (st:aa):cQ Tryz.prog [.tmp 2] R [] [] 3000 [.code (bz Tryz.f159)] ([a0]++List.replicate (Tryz.f159.ntmps-1) aM) st=MJ a0 R st:=by kernel_rfl
theorem c159 (a0:LV) {R:LV.RT} {st:aa} (h:MJ a0 R st):LZ 159 [a0] st R:=
 az.of aO Tryz.func159 (show Tryz.f159.body=some (bz Tryz.f159) by kernel_rfl) (by kernel_rfl) (show Tryz.f159.results.toList=[.tmp 2] by kernel_rfl) (bp aO 3000 (Eq.mpr (Ih a0 R st) h))
def w50 (a0 a1:LV) (R:LV.RT) (st:aa):Prop:=
 bd2 (ca st a0) fun v0 st1=>nw st1 [LV.nili] fun v2 st3=>bd (ad 0 v0) fun v4=>bd (ld1 st3 v4) fun v5=>bd (asC 173 (some LV.nilm) v5 true) fun v6=>bd (aj v6 0) fun v7=>bd (aj v6 1) fun _v8=>bd (sO st3 true (some (LV.agg [LV.nili])) v7 a1 true) fun v9=>bd (aj v9 0) fun v10=>bd (aj v9 1) fun v11=>nw st3 [LV.nili] fun v12 st13=>bd2 (lmk (stV st13 1 v12 v10)) fun _v14 st15=>bd (ldA st15
 v12 1) fun v16=>bd2 (lmk (stV st15 1 v2 v16)) fun _v17 st18=>bd (ldA st18 v2 1) fun v19=>R (LV.tup [v19,v11]) st18
theorem K7 (a0 a1:LV) (R:LV.RT) (st:aa):cQ Tryz.prog [.cell 4 57,.tmp 5] R [] [] 3000 [.code (bz Tryz.f50)] ([a0,a1]++List.replicate (Tryz.f50.ntmps-2) aM) st=w50 a0 a1 R st:=by kernel_rfl
theorem c50 (a0 a1:LV) {R:LV.RT} {st:aa} (h:w50 a0 a1 R st):LZ 50 [a0,a1] st R:=
 az.of aO Tryz.func50 (show Tryz.f50.body=some (bz Tryz.f50) by kernel_rfl) (by kernel_rfl) (show Tryz.f50.results.toList=[.cell 4 57,.tmp 5] by kernel_rfl) (bp aO 3000 (Eq.mpr (K7 a0 a1 R st) h))
def w97 (a0:LV) (R:LV.RT) (st:aa):Prop:=
 bd2 (ca st a0) fun v0 st1=>bd (ad 0 v0) fun v2=>bd (ld1 st1 v2) fun v3=>bd (asC 4 (some (LV.bool false)) v3 true) fun v4=>bd (aj v4 0) fun v5=>bd (aj v4 1) fun v6=>R (LV.tup [v5,v6]) st1
theorem K8 (a0:LV) (R:LV.RT) (st:aa):cQ Tryz.prog [.tmp 2,.tmp 3] R [] [] 3000 [.code (bz Tryz.f97)] ([a0]++List.replicate (Tryz.f97.ntmps-1) aM) st=w97 a0 R st:=by kernel_rfl
theorem c97 (a0:LV) {R:LV.RT} {st:aa} (h:w97 a0 R st):LZ 97 [a0] st R:=
 az.of aO Tryz.func97 (show Tryz.f97.body=some (bz Tryz.f97) by kernel_rfl) (by kernel_rfl) (show Tryz.f97.results.toList=[.tmp 2,.tmp 3] by kernel_rfl) (bp aO 3000 (Eq.mpr (K8 a0 R st) h))
def w98 (a0:LV) (R:LV.RT) (st:aa):Prop:=
 bd2 (ca st a0) fun v0 st1=>bd (ad 0 v0) fun v2=>bd (ld1 st1 v2) fun v3=>bd (asC 3 (some (LV.int IntKind.i64 0)) v3 true) fun v4=>bd (aj v4 0) fun v5=>bd (aj v4 1) fun v6=>R (LV.tup [v5,v6])
 st1
theorem K9 (a0:LV) (R:LV.RT) (st:aa):cQ Tryz.prog [.tmp 2,.tmp 3] R [] [] 3000 [.code (bz Tryz.f98)] ([a0]++List.replicate (Tryz.f98.ntmps-1) aM) st=w98 a0 R st:=by kernel_rfl
theorem c98 (a0:LV) {R:LV.RT} {st:aa} (h:w98 a0 R st):LZ 98 [a0] st R:=
 az.of aO Tryz.func98 (show Tryz.f98.body=some (bz Tryz.f98) by kernel_rfl) (by kernel_rfl) (show Tryz.f98.results.toList=[.tmp 2,.tmp 3] by kernel_rfl) (bp aO 3000 (Eq.mpr (K9 a0 R st) h))
def w99 (a0:LV) (R:LV.RT) (st:aa):Prop:=
 bd2 (ca st a0) fun v0 st1=>bd (ad 0 v0) fun v2=>bd (ld1 st1 v2) fun v3=>bd (asC 170 (some (LV.cplx FloatKind.f64 0 0)) v3 true) fun v4=>bd (aj v4 0) fun v5=>bd (aj v4 1) fun v6=>bd (EE v5)
 fun v7=>bd (sP IntKind.i64 v7) fun v8=>bd (EF v5) fun v9=>bd (sP IntKind.i64 v9) fun v10=>R (LV.tup [v8,v10,v6]) st1
theorem La (a0:LV) (R:LV.RT) (st:aa):cQ Tryz.prog [.tmp 2,.tmp 3,.tmp 4] R [] [] 3000 [.code (bz Tryz.f99)] ([a0]++List.replicate (Tryz.f99.ntmps-1) aM) st=w99 a0 R st:=by kernel_rfl
theorem c99 (a0:LV) {R:LV.RT} {st:aa} (h:w99 a0 R st):LZ 99 [a0] st R:=
 az.of aO Tryz.func99 (show Tryz.f99.body=some (bz Tryz.f99) by kernel_rfl) (by kernel_rfl) (show Tryz.f99.results.toList=[.tmp 2,.tmp 3,.tmp 4] by kernel_rfl) (bp aO 3000 (Eq.mpr (La a0 R st) h))
def ML (a0:LV) (R:LV.RT) (st:aa):Prop:=
 bd2 (ca st a0) fun v0 st1=>bd (ad 0 v0) fun v2=>bd (ld1 st1 v2) fun v3=>bd (asC 9 (some (LV.str [])) v3 true) fun v4=>bd (aj v4 0) fun v5=>bd (aj v4 1) fun v6=>R (LV.tup [v5,v6]) st1
theorem Ii (a0:LV) (R:LV.RT) (st:aa):cQ Tryz.prog [.tmp 2,.tmp 3] R [] [] 3000 [.code (bz Tryz.f100)] ([a0]++List.replicate (Tryz.f100.ntmps-1) aM) st=ML a0 R st:=by kernel_rfl
theorem N1 (a0:LV) {R:LV.RT} {st:aa} (h:ML a0 R st):LZ 100 [a0] st R:=
 az.of aO Tryz.func100 (show Tryz.f100.body=some (bz Tryz.f100) by kernel_rfl) (by kernel_rfl) (show Tryz.f100.results.toList=[.tmp 2,.tmp 3] by kernel_rfl) (bp aO 3000 (Eq.mpr (Ii a0 R st) h))
end Go.Proofs.YtknegckgmklnhaaGreatDoor
