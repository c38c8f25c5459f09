/- Parts of the proof. -/
import Derived.Test.YtknegckgmklnhaaGreatDoorProg
import Derived.Test.YtknegckgmklnhaaGreatDoorCp42
namespace Go.Proofs.YtknegckgmklnhaaGreatDoor
open Go Go.CP
abbrev i64 (n:Int):LV:=.int .i64 n
abbrev LZ (f:FuncId) (xs:List LV) (st:aa) (R:LV.RT):Prop:=ak Tryz.prog f xs st R
set_option maxRecDepth 100000
theorem ag:Tryz.prog.follows .mixedOrders=true:=by kernel_rfl
def uB (x1 x3 x4 x5:LV) (R:LV.RT) (st:aa):Prop:=LT Tryz.prog [.tmp 2] (bL Tryz.f24 1) R (.aJ::x1::.aJ::x3::x4::x5::(LV.jk 68 [])) st
def rS (x1 x3 x4 x5:LV) (R:LV.RT) (st:aa):Prop:=LT Tryz.prog [.tmp 2] (bL Tryz.f24 4) R (.aJ::x1::.aJ::x3::x4::x5::(LV.jk 68 [])) st
def rU (x1 x2 x5 x6:LV) (R:LV.RT) (st:aa):Prop:=LT Tryz.prog [.cell 2 57] (bL Tryz.f29 2) R (.aJ::x1::x2::.aJ::.aJ::x5::x6::(LV.jk 66 [])) st
def uC (x1 x4 x6 x18 x19 x20:LV) (R:LV.RT) (st:aa):Prop:=LT Tryz.prog [.cell 4 57,.tmp 5] (bL Tryz.f72 1) R (.aJ::x1::.aJ::.aJ::x4::.aJ::x6::(LV.jk 11 (x18::x19::x20::(LV.jk 22 [])))) st
def uD (x1 x3 x4:LV) (R:LV.RT) (st:aa):Prop:=LT Tryz.prog [.tmp 2] (bL Tryz.f85 1) R (.aJ::x1::.aJ::x3::x4::(LV.jk 16 [])) st
def uE (x1 x3 x4:LV) (R:LV.RT) (st:aa):Prop:=LT Tryz.prog [.tmp 2] (bL Tryz.f86 1) R (.aJ::x1::.aJ::x3::x4::(LV.jk 17 [])) st
def nQ (x5 x6 x26 x27 x28:LV) (R:LV.RT) (st:aa):Prop:=LT Tryz.prog [.tmp 2] (bL Tryz.f101 1) R (LV.jk 5 (x5::x6::(LV.jk 19 (x26::x27::x28::(LV.jk 11 []))))) st
def qa (x1 x2 x15 x16 x17:LV) (R:LV.RT) (st:aa):Prop:=LT Tryz.prog [.tmp 6] (bL Tryz.f113 1) R (.aJ::x1::x2::(LV.jk 12 (x15::x16::x17::(LV.jk 14 [])))) st
def qb (x1 x2 x17:LV) (R:LV.RT) (st:aa):Prop:=LT Tryz.prog [.tmp 6] (bL Tryz.f114 1) R (.aJ::x1::x2::(LV.jk 14 (x17::(LV.jk 20 [])))) st
def qc (x0 x1 x12 x13:LV) (R:LV.RT) (st:aa):Prop:=LT Tryz.prog [.tmp 4] (bL Tryz.f121 1) R (x0::x1::(LV.jk 10 (x12::x13::(LV.jk 12 [])))) st
def qd (x1 x2 x15 x16 x17:LV) (R:LV.RT) (st:aa):Prop:=LT Tryz.prog [.tmp 6] (bL Tryz.f122 1) R (.aJ::x1::x2::(LV.jk 12 (x15::x16::x17::(LV.jk 14 [])))) st
def nR (x0 x1 x7 x8:LV) (R:LV.RT) (st:aa):Prop:=LT Tryz.prog [.tmp 4] (bL Tryz.f216 1) R (x0::x1::(LV.jk 5 (x7::x8::(LV.jk 10 [])))) st
def w24 (a0:LV) (R:LV.RT) (st:aa):Prop:=
 bd2 (cy st a0) fun v0 st1=>bd (aK 5 v0) fun v2=>bd (ld1 st1 v2) fun v3=>bd (bg v3) fun v4=>bd (aU BinOp.sub v4 (LV.int IntKind.i64 70)) fun v5=>bd (gh [v5,LV.int IntKind.i64 0]) fun v6=>bd
 (aK 6 v0) fun v7=>bd (ld1 st1 v7) fun v8=>bd (bg v8) fun v9=>bd (aU BinOp.sub v9 (LV.int IntKind.i64 70)) fun v10=>bd (gh [v10,LV.int IntKind.i64 0]) fun v11=>bd (aU BinOp.add v6 v11) fun v12=>bd (aK 4 v0) fun v13=>bd (ld1 st1 v13) fun v14=>bd (mW v14) fun v15=>bd (aU BinOp.sub v15 (LV.int IntKind.i64 300)) fun v16=>bd (gh [v16,LV.int IntKind.i64 0]) fun v17=>bd (aU BinOp.add v12 v17)
 fun v18=>bd (ldA st1 v0 7) fun v19=>bd (ldA st1 v0 7) fun v20=>LZ 85 [v19] st1 fun v21 st22=>ldA st22 v0 7=some v20∧ld1 st22 v13=some v14∧ld1 st22 v7=some v8∧ld1 st22 v2=some v3∧bd
 (aU BinOp.sub v21 (LV.int IntKind.i64 200)) fun v23=>bd (gh [v23,LV.int IntKind.i64 0]) fun v24=>bd (aU BinOp.add v18 v24) fun v25=>LZ 86 [v20] st22 fun v26 st27=>ld1 st27 v13=some v14∧
 ld1 st27 v7=some v8∧ld1 st27 v2=some v3∧bd (aU BinOp.sub v26 (LV.int IntKind.i64 12)) fun v28=>bd (gh [v28,LV.int IntKind.i64 0]) fun v29=>bd (aU BinOp.add v25 v29) fun v30=>uB v0 v30 (LV.int
 IntKind.i64 0) (LV.tup []) R st27
theorem Ax (a0:LV) (R:LV.RT) (st:aa):bK Tryz.prog [.tmp 2] R [0,2,6,7,8,9,10,11,12,13,14,15,16,17,18,19,20,21,22,23,24,25,26,27,28,29,30,31,32,33,34,35,36,37,38,39,40,41,42,43,44,45,46,47,48,49,50,51,52,53,54,55,56,57,58,59,60,61,62,63,64,65,66,67,68,69,70,71,72,73] [] 3000 [.code (ay Tryz.f24)] ([a0]++List.replicate (Tryz.f24.ntmps-1) af) st=w24 a0 R st:=by kernel_rfl
theorem c24 (a0:LV) {R:LV.RT} {st:aa} (h:w24 a0 R st):LZ 24 [a0] st R:=
 ak.of ag Tryz.func24 (show Tryz.f24.body=some (ay Tryz.f24) by kernel_rfl) (by kernel_rfl) (show Tryz.f24.results.toList=[.tmp 2] by kernel_rfl) (aw ag 3000 (Eq.mpr (Ax a0 R st) h))
def rV (x1 x3 x4 x5:LV) (R:LV.RT) (st:aa):Prop:=
 bd (aK 6 x1) fun v0=>bd (ld1 st v0) fun v1=>bd (bg v1) fun v2=>bd (aU BinOp.lss x4 v2) fun v3=>aL v3 (bd (aU BinOp.lss x4 (LV.int IntKind.i64 80)) fun v4=>aL v4 (bd (aK 6 x1) fun v5=>bd (ld1
 st v5) fun v6=>bd (bF 1 v6 x4) fun v7=>bd (ld1 st v7) fun v8=>bd (mW v8) fun v9=>bd (aU BinOp.sub v9 (LV.int IntKind.i64 300)) fun v10=>bd (gh [v10,LV.int IntKind.i64 0]) fun v11=>bd (aU
 BinOp.add x3 v11) fun v12=>bd (aU BinOp.add x4 (LV.int IntKind.i64 1)) fun v13=>uB x1 v12 v13 x5 R st) (rS x1 x3 x4 (LV.int IntKind.i64 0) R st)) (rS x1 x3 x4 (LV.int IntKind.i64 0) R st)
theorem wX (x1 x3 x4 x5:LV) (R:LV.RT) (st:aa):bK Tryz.prog [.tmp 2] R [0,2,6,7,8,9,10,11,12,13,14,15,16,17,18,19,20,21,22,23,24,25,26,27,28,29,30,31,32,33,34,35,36,37,38,39,40,41,42,43,44,45,46,47,48,49,50,51,52,53,54,55,56,57,58,59,60,61,62,63,64,65,66,67,68,69,70,71,72,73] [] 3000 (bB (bL Tryz.f24 1)) (.aJ::x1::.aJ::x3::x4::x5::(LV.jk 68 [])) st=rV x1 x3 x4 x5 R st:=by kernel_rfl
theorem wY (x1 x3 x4 x5:LV) {R:LV.RT} {st:aa} (h:rV x1 x3 x4 x5 R st):uB x1 x3 x4 x5 R st:=
 LT.at ag 3000 (Eq.mpr (wX x1 x3 x4 x5 R st) h)
def rX (x1 x3 x4 x5:LV) (R:LV.RT) (st:aa):Prop:=
 bd (aK 5 x1) fun v0=>bd (ld1 st v0) fun v1=>bd (bg v1) fun v2=>bd (aU BinOp.lss x5 v2) fun v3=>aL v3 (bd (aU BinOp.eql x3 (LV.int IntKind.i64 0)) fun v4=>aL v4 (bd (aK 5 x1) fun v5=>bd (ld1
 st v5) fun v6=>bd (bF 7 v6 x5) fun v7=>bd (ldA st v7 7) fun v8=>LZ 24 [v8] st fun v9 st10=>bd (aU BinOp.add x3 v9) fun v11=>bd (aU BinOp.add x5 (LV.int IntKind.i64 1)) fun v12=>rS x1
 v11 x4 v12 R st10) (R x3 st)) (R x3 st)
theorem wZ (x1 x3 x4 x5:LV) (R:LV.RT) (st:aa):bK Tryz.prog [.tmp 2] R [0,2,6,7,8,9,10,11,12,13,14,15,16,17,18,19,20,21,22,23,24,25,26,27,28,29,30,31,32,33,34,35,36,37,38,39,40,41,42,43,44,45,46,47,48,49,50,51,52,53,54,55,56,57,58,59,60,61,62,63,64,65,66,67,68,69,70,71,72,73] [] 3000 (bB (bL Tryz.f24 4)) (.aJ::x1::.aJ::x3::x4::x5::(LV.jk 68 [])) st=rX x1 x3 x4 x5 R st:=by kernel_rfl
theorem xa (x1 x3 x4 x5:LV) {R:LV.RT} {st:aa} (h:rX x1 x3 x4 x5 R st):rS x1 x3 x4 x5 R st:=
 LT.at ag 3000 (Eq.mpr (wZ x1 x3 x4 x5 R st) h)
def w85 (a0:LV) (R:LV.RT) (st:aa):Prop:=
 bd2 (cy st a0) fun v0 st1=>uD v0 (LV.int IntKind.i64 1) (LV.int IntKind.i64 0) R st1
theorem Ay (a0:LV) (R:LV.RT) (st:aa):bK Tryz.prog [.tmp 2] R [0,2,5,6,7,8,9,10,11,12,13,14,15,16,17,18,19,20] [] 3000 [.code (ay Tryz.f85)] ([a0]++List.replicate (Tryz.f85.ntmps-1) af) st=w85 a0 R st:=by kernel_rfl
theorem c85 (a0:LV) {R:LV.RT} {st:aa} (h:w85 a0 R st):LZ 85 [a0] st R:=
 ak.of ag Tryz.func85 (show Tryz.f85.body=some (ay Tryz.f85) by kernel_rfl) (by kernel_rfl) (show Tryz.f85.results.toList=[.tmp 2] by kernel_rfl) (aw ag 3000 (Eq.mpr (Ay a0 R st) h))
def uF (x1 x3 x4:LV) (R:LV.RT) (st:aa):Prop:=
 bd (aK 5 x1) fun v0=>bd (ld1 st v0) fun v1=>bd (bg v1) fun v2=>bd (aU BinOp.lss x4 v2) fun v3=>aL v3 (bd (aK 5 x1) fun v4=>bd (ld1 st v4) fun v5=>bd (bF 7 v5 x4) fun v6=>bd (ldA st v6 7) fun
 v7=>LZ 85 [v7] st fun v8 st9=>bd (aU BinOp.add x3 v8) fun v10=>bd (aU BinOp.add x4 (LV.int IntKind.i64 1)) fun v11=>uD x1 v10 v11 R st9) (R x3 st)
theorem xb (x1 x3 x4:LV) (R:LV.RT) (st:aa):bK Tryz.prog [.tmp 2] R [0,2,5,6,7,8,9,10,11,12,13,14,15,16,17,18,19,20] [] 3000 (bB (bL Tryz.f85 1)) (.aJ::x1::.aJ::x3::x4::(LV.jk 16 [])) st=uF x1 x3 x4 R st:=by kernel_rfl
theorem zL (x1 x3 x4:LV) {R:LV.RT} {st:aa} (h:uF x1 x3 x4 R st):uD x1 x3 x4 R st:=
 LT.at ag 3000 (Eq.mpr (xb x1 x3 x4 R st) h)
def w86 (a0:LV) (R:LV.RT) (st:aa):Prop:=
 bd2 (cy st a0) fun v0 st1=>uE v0 (LV.int IntKind.i64 0) (LV.int IntKind.i64 0) R st1
theorem Az (a0:LV) (R:LV.RT) (st:aa):bK Tryz.prog [.tmp 2] R [0,2,5,6,7,8,9,10,11,12,13,14,15,16,17,18,19,20,21] [] 3000 [.code (ay Tryz.f86)] ([a0]++List.replicate (Tryz.f86.ntmps-1) af) st=w86 a0 R st:=by kernel_rfl
theorem c86 (a0:LV) {R:LV.RT} {st:aa} (h:w86 a0 R st):LZ 86 [a0] st R:=
 ak.of ag Tryz.func86 (show Tryz.f86.body=some (ay Tryz.f86) by kernel_rfl) (by kernel_rfl) (show Tryz.f86.results.toList=[.tmp 2] by kernel_rfl) (aw ag 3000 (Eq.mpr (Az a0 R st) h))
def uG (x1 x3 x4:LV) (R:LV.RT) (st:aa):Prop:=
 bd (aK 5 x1) fun v0=>bd (ld1 st v0) fun v1=>bd (bg v1) fun v2=>bd (aU BinOp.lss x4 v2) fun v3=>aL v3 (bd (aK 5 x1) fun v4=>bd (ld1 st v4) fun v5=>bd (bF 7 v5 x4) fun v6=>bd (ldA st v6 7) fun
 v7=>LZ 86 [v7] st fun v8 st9=>bd (gh [x3,v8]) fun v10=>bd (aU BinOp.add x4 (LV.int IntKind.i64 1)) fun v11=>uE x1 v10 v11 R st9) (bd (aU BinOp.add x3 (LV.int IntKind.i64 1)) fun v12=>R
 v12 st)
theorem xc (x1 x3 x4:LV) (R:LV.RT) (st:aa):bK Tryz.prog [.tmp 2] R [0,2,5,6,7,8,9,10,11,12,13,14,15,16,17,18,19,20,21] [] 3000 (bB (bL Tryz.f86 1)) (.aJ::x1::.aJ::x3::x4::(LV.jk 17 [])) st=uG x1 x3 x4 R st:=by kernel_rfl
theorem zM (x1 x3 x4:LV) {R:LV.RT} {st:aa} (h:uG x1 x3 x4 R st):uE x1 x3 x4 R st:=
 LT.at ag 3000 (Eq.mpr (xc x1 x3 x4 R st) h)
def w29 (a0:LV) (R:LV.RT) (st:aa):Prop:=
 bd2 (cy st a0) fun v0 st1=>nw st1 [LV.nili] fun v2 st3=>bd (aK 0 v0) fun v4=>bd (ld1 st3 v4) fun v5=>bd (aU BinOp.eql v5 (LV.int IntKind.i64 1)) fun v6=>aL v6 (LZ 69 [] st3 fun v7 st8=>bd2 (lmk (stV st8 1 v2 v7)) fun _v9 st10=>bd (ldA st10 v2 1) fun v11=>R v11 st10) (bd (aU BinOp.eql v5 (LV.int IntKind.i64 2)) fun v12=>aL v12 (bd (aK 1 v0) fun v13=>bd (ld1 st3 v13) fun v14=>ak
 Tryz.prog 92 [v14] st3 fun v15 st16=>bd2 (lmk (stV st16 1 v2 v15)) fun _v17 st18=>bd (ldA st18 v2 1) fun v19=>R v19 st18) (bd (aU BinOp.eql v5 (LV.int IntKind.i64 3)) fun v20=>aL v20 (bd (aK 2 v0) fun v21
 => bd (ld1 st3 v21) fun v22=>LZ 73 [v22] st3 fun v23 st24=>bd2 (lmk (stV st24 1 v2 v23)) fun _v25 st26=>bd (ldA st26 v2 1) fun v27=>R v27 st26) (bd (aU BinOp.eql v5 (LV.int IntKind.i64 4)) fun v28
 => aL v28 (bd (aK 2 v0) fun v29=>bd (ld1 st3 v29) fun v30=>bd (aK 3 v0) fun v31=>bd (ld1 st3 v31) fun v32=>LZ 93 [v30,v32] st3 fun v33 st34=>bd (ah v33 0) fun v35=>bd (ah
 v33 1) fun _v36=>nw st34 [LV.nili] fun v37 st38=>bd2 (lmk (stV st38 1 v37 v35)) fun _v39 st40=>bd (ldA st40 v37 1) fun v41=>bd2 (lmk (stV st40 1 v2 v41)) fun _v42 st43=>bd (ldA st43 v2 1) fun v44=>R v44 st43)
 (bd (aU BinOp.eql v5 (LV.int IntKind.i64 5)) fun v45=>aL v45 (bd (aK 4 v0) fun v46=>bd (ld1 st3 v46) fun v47=>LZ 91 [v47] st3 fun v48 st49=>bd2 (lmk (stV st49 1 v2 v48)) fun _v50 st51=>bd
 (ldA st51 v2 1) fun v52=>R v52 st51) (bd (aU BinOp.eql v5 (LV.int IntKind.i64 6)) fun v53=>aL v53 (aL v53 (rU v0 v2 LV.nils (LV.int IntKind.i64 0) R st3) (LZ 66 [] st3 fun v54 st55=>bd2 (lmk
 (stV st55 1 v2 v54)) fun _v56 st57=>bd (ldA st57 v2 1) fun v58=>R v58 st57)) (bd (aU BinOp.eql v5 (LV.int IntKind.i64 7)) fun v59=>aL v59 (rU v0 v2 LV.nils (LV.int IntKind.i64 0) R st3) (LZ 66
 [] st3 fun v60 st61=>bd2 (lmk (stV st61 1 v2 v60)) fun _v62 st63=>bd (ldA st63 v2 1) fun v64=>R v64 st63)))))))
theorem AA (a0:LV) (R:LV.RT) (st:aa):bK Tryz.prog [.cell 2 57] R [0,3,4,7,8,9,10,11,12,13,14,15,16,17,18,19,20,21,22,23,24,25,26,27,28,29,30,31,32,33,34,35,36,37,38,39,40,41,42,43,44,45,46,47,48,49,50,51,52,53,54,55,56,57,58,59,60,61,62,63,64,65,66,67,68,69,70,71,72] [] 3000 [.code (ay Tryz.f29)] ([a0]++List.replicate (Tryz.f29.ntmps-1) af) st=w29 a0 R st:=by kernel_rfl
theorem c29 (a0:LV) {R:LV.RT} {st:aa} (h:w29 a0 R st):LZ 29 [a0] st R:=
 ak.of ag Tryz.func29 (show Tryz.f29.body=some (ay Tryz.f29) by kernel_rfl) (by kernel_rfl) (show Tryz.f29.results.toList=[.cell 2 57] by kernel_rfl) (aw ag 3000 (Eq.mpr (AA a0 R st) h))
def uH (x1 x2 x5 x6:LV) (R:LV.RT) (st:aa):Prop:=
 bd (aK 5 x1) fun v0=>bd (ld1 st v0) fun v1=>bd (bg v1) fun v2=>bd (aU BinOp.lss x6 v2) fun v3=>aL v3 (bd (aK 5 x1) fun v4=>bd (ld1 st v4) fun v5=>bd (bF 7 v5 x6) fun v6=>bd (ldA st v6 7) fun
 v7=>LZ 29 [v7] st fun v8 st9=>bd2 (eO st9 1 (aV (fun i=>some (i*1,1)) (List.replicate 1 [LV.nili]).flatten [(0,v8)])) fun v10 st11=>bd2 (a6 st11 1 16 Md.rw x5 v10) fun v12 st13=>bd
 (aU BinOp.add x6 (LV.int IntKind.i64 1)) fun v14=>rU x1 x2 v12 v14 R st13) (bd (aK 0 x1) fun v15=>bd (ld1 st v15) fun v16=>bd (aU BinOp.eql v16 (LV.int IntKind.i64 6)) fun v17=>aL v17 (ak
 Tryz.prog 94 [x5] st fun v18 st19=>bd2 (lmk (stV st19 1 x2 v18)) fun _v20 st21=>bd (ldA st21 x2 1) fun v22=>R v22 st21) (bd (aK 6 x1) fun v23=>bd (ld1 st v23) fun v24=>LZ 72 [v24,x5] st fun
 v25 st26=>bd (ah v25 0) fun v27=>bd (ah v25 1) fun _v28=>nw st26 [LV.nili] fun v29 st30=>bd2 (lmk (stV st30 1 v29 v27)) fun _v31 st32=>bd (ldA st32 v29 1) fun v33=>bd2 (lmk (stV st32 1 x2 v33))
 fun _v34 st35=>bd (ldA st35 x2 1) fun v36=>R v36 st35))
theorem xd (x1 x2 x5 x6:LV) (R:LV.RT) (st:aa):bK Tryz.prog [.cell 2 57] R [0,3,4,7,8,9,10,11,12,13,14,15,16,17,18,19,20,21,22,23,24,25,26,27,28,29,30,31,32,33,34,35,36,37,38,39,40,41,42,43,44,45,46,47,48,49,50,51,52,53,54,55,56,57,58,59,60,61,62,63,64,65,66,67,68,69,70,71,72] [] 3000 (bB (bL Tryz.f29 2)) (.aJ::x1::x2::.aJ::.aJ::x5::x6::(LV.jk 66 [])) st=uH x1 x2 x5 x6 R st:=by kernel_rfl
theorem zN (x1 x2 x5 x6:LV) {R:LV.RT} {st:aa} (h:uH x1 x2 x5 x6 R st):rU x1 x2 x5 x6 R st:=
 LT.at ag 3000 (Eq.mpr (xd x1 x2 x5 x6 R st) h)
def w66 (R:LV.RT) (st:aa):Prop:=
 nw st [LV.nili] fun v0 st1=>bd (bG (aV (aQ [(0,1)]) [LV.nili] [])) fun v2=>bd2 (lmk (stV st1 1 v0 v2)) fun _v3 st4=>bd (ldA st4 v0 1) fun v5=>R v5 st4
theorem AB (R:LV.RT) (st:aa):bK Tryz.prog [.cell 0 57] R [] [] 3000 [.code (ay Tryz.f66)] ([]++List.replicate (Tryz.f66.ntmps-0) af) st=w66  R st:=by kernel_rfl
theorem c66 {R:LV.RT} {st:aa} (h:w66  R st):LZ 66 [] st R:=
 ak.of ag Tryz.func66 (show Tryz.f66.body=some (ay Tryz.f66) by kernel_rfl) (by kernel_rfl) (show Tryz.f66.results.toList=[.cell 0 57] by kernel_rfl) (aw ag 3000 (Eq.mpr (AB  R st) h))
def w69 (R:LV.RT) (st:aa):Prop:=
 nw st [LV.nili] fun v0 st1=>bd (bG (aV (aQ []) [] [])) fun v2=>bd (bG (aV (aQ [(0,1)]) [LV.nili] [(0,LV.iface 169 v2)])) fun v3=>bd2 (lmk (stV st1 1 v0 v3)) fun _v4 st5=>bd (ldA st5 v0 1)
 fun v6=>R v6 st5
theorem AD (R:LV.RT) (st:aa):bK Tryz.prog [.cell 0 57] R [] [] 3000 [.code (ay Tryz.f69)] ([]++List.replicate (Tryz.f69.ntmps-0) af) st=w69  R st:=by kernel_rfl
theorem c69 {R:LV.RT} {st:aa} (h:w69  R st):LZ 69 [] st R:=
 ak.of ag Tryz.func69 (show Tryz.f69.body=some (ay Tryz.f69) by kernel_rfl) (by kernel_rfl) (show Tryz.f69.results.toList=[.cell 0 57] by kernel_rfl) (aw ag 3000 (Eq.mpr (AD  R st) h))
def w92 (a0:LV) (R:LV.RT) (st:aa):Prop:=
 nw st [LV.nili] fun v0 st1=>bd (bG (aV (aQ [(0,1)]) [LV.nili] [(0,LV.iface 4 a0)])) fun v2=>bd2 (lmk (stV st1 1 v0 v2)) fun _v3 st4=>bd (ldA st4 v0 1) fun v5=>R v5 st4
theorem AE (a0:LV) (R:LV.RT) (st:aa):bK Tryz.prog [.cell 2 57] R [] [] 3000 [.code (ay Tryz.f92)] ([a0]++List.replicate (Tryz.f92.ntmps-1) af) st=w92 a0 R st:=by kernel_rfl
theorem c92 (a0:LV) {R:LV.RT} {st:aa} (h:w92 a0 R st):LZ 92 [a0] st R:=
 ak.of ag Tryz.func92 (show Tryz.f92.body=some (ay Tryz.f92) by kernel_rfl) (by kernel_rfl) (show Tryz.f92.results.toList=[.cell 2 57] by kernel_rfl) (aw ag 3000 (Eq.mpr (AE a0 R st) h))
def w73 (a0:LV) (R:LV.RT) (st:aa):Prop:=
 nw st [LV.nili] fun v0 st1=>bd (bG (aV (aQ [(0,1)]) [LV.nili] [(0,LV.iface 3 a0)])) fun v2=>bd2 (lmk (stV st1 1 v0 v2)) fun _v3 st4=>bd (ldA st4 v0 1) fun v5=>R v5 st4
theorem AF (a0:LV) (R:LV.RT) (st:aa):bK Tryz.prog [.cell 2 57] R [] [] 3000 [.code (ay Tryz.f73)] ([a0]++List.replicate (Tryz.f73.ntmps-1) af) st=w73 a0 R st:=by kernel_rfl
theorem c73 (a0:LV) {R:LV.RT} {st:aa} (h:w73 a0 R st):LZ 73 [a0] st R:=
 ak.of ag Tryz.func73 (show Tryz.f73.body=some (ay Tryz.f73) by kernel_rfl) (by kernel_rfl) (show Tryz.f73.results.toList=[.cell 2 57] by kernel_rfl) (aw ag 3000 (Eq.mpr (AF a0 R st) h))
def w93 (a0 a1:LV) (R:LV.RT) (st:aa):Prop:=
 nw st [LV.nili] fun v0 st1=>LZ 156 [a0] st1 fun v2 st3=>bd (lun UnOp.not v2) fun v4=>aL v4 (bd (bG (aV (aQ [(0,1)]) [LV.nili] [])) fun v5=>bd2 (lmk (stV st3 1 v0 v5)) fun _v6 st7=>bd
 (ldA st7 v0 1) fun v8=>R (LV.tup [v8,LV.int IntKind.i64 2]) st7) (LZ 156 [a1] st3 fun v9 st10=>bd (lun UnOp.not v9) fun v11=>aL v11 (bd (bG (aV (aQ [(0,1)]) [LV.nili] [])) fun v12=>bd2 (lmk (stV st10 1 v0 v12)) fun _v13 st14=>bd (ldA st14 v0 1) fun v15=>R (LV.tup [v15,LV.int IntKind.i64 2]) st14) (bd (vm FloatKind.f64 a0) fun v16=>bd (vm FloatKind.f64 a1) fun v17=>bd (uh v16 v17)
 fun v18=>bd (bG (aV (aQ [(0,1)]) [LV.nili] [(0,LV.iface 170 v18)])) fun v19=>bd2 (lmk (stV st10 1 v0 v19)) fun _v20 st21=>bd (ldA st21 v0 1) fun v22=>R (LV.tup [v22,LV.int IntKind.i64 0]) st21))
theorem AG (a0 a1:LV) (R:LV.RT) (st:aa):bK Tryz.prog [.cell 4 57,.tmp 5] R [] [] 3000 [.code (ay Tryz.f93)] ([a0,a1]++List.replicate (Tryz.f93.ntmps-2) af) st=w93 a0 a1 R st:=by kernel_rfl
theorem c93 (a0 a1:LV) {R:LV.RT} {st:aa} (h:w93 a0 a1 R st):LZ 93 [a0,a1] st R:=
 ak.of ag Tryz.func93 (show Tryz.f93.body=some (ay Tryz.f93) by kernel_rfl) (by kernel_rfl) (show Tryz.f93.results.toList=[.cell 4 57,.tmp 5] by kernel_rfl) (aw ag 3000 (Eq.mpr (AG a0 a1 R st) h))
def w91 (a0:LV) (R:LV.RT) (st:aa):Prop:=
 nw st [LV.nili] fun v0 st1=>bd (bG (aV (aQ [(0,1)]) [LV.nili] [(0,LV.iface 9 a0)])) fun v2=>bd2 (lmk (stV st1 1 v0 v2)) fun _v3 st4=>bd (ldA st4 v0 1) fun v5=>R v5 st4
theorem AH (a0:LV) (R:LV.RT) (st:aa):bK Tryz.prog [.cell 2 57] R [] [] 3000 [.code (ay Tryz.f91)] ([a0]++List.replicate (Tryz.f91.ntmps-1) af) st=w91 a0 R st:=by kernel_rfl
theorem c91 (a0:LV) {R:LV.RT} {st:aa} (h:w91 a0 R st):LZ 91 [a0] st R:=
 ak.of ag Tryz.func91 (show Tryz.f91.body=some (ay Tryz.f91) by kernel_rfl) (by kernel_rfl) (show Tryz.f91.results.toList=[.cell 2 57] by kernel_rfl) (aw ag 3000 (Eq.mpr (AH a0 R st) h))
def w94 (a0:LV) (R:LV.RT) (st:aa):Prop:=
 nw st [LV.nili] fun v0 st1=>LZ 157 [a0] st1 fun v2 st3=>bd (bG (aV (aQ [(0,1)]) [LV.nili] [(0,LV.iface 171 v2)])) fun v4=>bd2 (lmk (stV st3 1 v0 v4)) fun _v5 st6=>bd (ldA st6 v0 1) fun
 v7=>R v7 st6
theorem AI (a0:LV) (R:LV.RT) (st:aa):bK Tryz.prog [.cell 2 57] R [] [] 3000 [.code (ay Tryz.f94)] ([a0]++List.replicate (Tryz.f94.ntmps-1) af) st=w94 a0 R st:=by kernel_rfl
theorem c94 (a0:LV) {R:LV.RT} {st:aa} (h:w94 a0 R st):LZ 94 [a0] st R:=
 ak.of ag Tryz.func94 (show Tryz.f94.body=some (ay Tryz.f94) by kernel_rfl) (by kernel_rfl) (show Tryz.f94.results.toList=[.cell 2 57] by kernel_rfl) (aw ag 3000 (Eq.mpr (AI a0 R st) h))
def w72 (a0 a1:LV) (R:LV.RT) (st:aa):Prop:=
 nw st [LV.nili] fun v0 st1=>bd (bg a0) fun v2=>bd (bg a1) fun v3=>bd (aU BinOp.neq v2 v3) fun v4=>aL v4 (bd (bG (aV (aQ [(0,1)]) [LV.nili] [])) fun v5=>bd2 (lmk (stV st1 1 v0 v5)) fun _v6
 st7=>bd (ldA st7 v0 1) fun v8=>R (LV.tup [v8,LV.int IntKind.i64 1]) st7) (zx st1 fun v9 st10=>bd (bg a0) fun v11=>uC a1 v0 v9 a0 v11 (LV.int IntKind.i64 0) R st10)
theorem AJ (a0 a1:LV) (R:LV.RT) (st:aa):bK Tryz.prog [.cell 4 57,.tmp 5] R [0,2,3,5,7,8,9,10,11,12,13,14,15,16,17,21,22,23,24,25,26,27,28,29,30,31,32,33,34,35,36,37,38,39,40,41,42] [] 3000 [.code (ay Tryz.f72)] ([a0,a1]++List.replicate (Tryz.f72.ntmps-2) af) st=w72 a0 a1 R st:=by kernel_rfl
theorem c72 (a0 a1:LV) {R:LV.RT} {st:aa} (h:w72 a0 a1 R st):LZ 72 [a0,a1] st R:=
 ak.of ag Tryz.func72 (show Tryz.f72.body=some (ay Tryz.f72) by kernel_rfl) (by kernel_rfl) (show Tryz.f72.results.toList=[.cell 4 57,.tmp 5] by kernel_rfl) (aw ag 3000 (Eq.mpr (AJ a0 a1 R st) h))
def uI (x1 x4 x6 x18 x19 x20:LV) (R:LV.RT) (st:aa):Prop:=
 bd (aU BinOp.lss x20 x19) fun v0=>aL v0 (bd (bF 1 x18 x20) fun v1=>bd (ld1 st v1) fun v2=>bd (jb st true (some (LV.agg [LV.nili])) x6 v2 true) fun v3=>bd (ah v3 0) fun v4=>bd (ah v3 1) fun
 v5=>nw st [LV.nili] fun v6 st7=>bd2 (lmk (stV st7 1 v6 v4)) fun _v8 st9=>aL v5 (bd (bG (aV (aQ [(0,1)]) [LV.nili] [])) fun v10=>bd2 (lmk (stV st9 1 x4 v10)) fun _v11 st12=>bd (ldA st12 x4 1) fun
 v13=>R (LV.tup [v13,LV.int IntKind.i64 9]) st12) (bd (bF 1 x1 x20) fun v14=>bd (ldA st9 v14 1) fun v15=>bd2 (lmk (ox st9 true x6 v2 v15)) fun _v16 st17=>bd (aU BinOp.add x20 (LV.int IntKind.i64 1)) fun v18
 => uC x1 x4 x6 x18 x19 v18 R st17)) (bd (bG (aV (aQ [(0,1)]) [LV.nili] [(0,LV.iface 173 x6)])) fun v19=>bd2 (lmk (stV st 1 x4 v19)) fun _v20 st21=>bd (ldA st21 x4 1) fun v22=>R (LV.tup [v22,LV.int
 IntKind.i64 0]) st21)
theorem xe (x1 x4 x6 x18 x19 x20:LV) (R:LV.RT) (st:aa):bK Tryz.prog [.cell 4 57,.tmp 5] R [0,2,3,5,7,8,9,10,11,12,13,14,15,16,17,21,22,23,24,25,26,27,28,29,30,31,32,33,34,35,36,37,38,39,40,41,42] [] 3000 (bB (bL Tryz.f72 1)) (.aJ::x1::.aJ::.aJ::x4::.aJ::x6::(LV.jk 11 (x18::x19::x20::(LV.jk 22 [])))) st=uI x1 x4 x6 x18 x19 x20 R st:=by kernel_rfl
theorem zO (x1 x4 x6 x18 x19 x20:LV) {R:LV.RT} {st:aa} (h:uI x1 x4 x6 x18 x19 x20 R st):uC x1 x4 x6 x18 x19 x20 R st:=
 LT.at ag 3000 (Eq.mpr (xe x1 x4 x6 x18 x19 x20 R st) h)
def AK (a0:LV) (R:LV.RT) (st:aa):Prop:=
 bd (aU BinOp.geq a0 (LV.int IntKind.i64 (-9007199254740992))) fun v0=>aL v0 (bd (aU BinOp.leq a0 (LV.int IntKind.i64 9007199254740992)) fun v1=>R v1 st) (R (LV.bool false) st)
theorem yF (a0:LV) (R:LV.RT) (st:aa):bK Tryz.prog [.tmp 2] R [] [] 3000 [.code (ay Tryz.f156)] ([a0]++List.replicate (Tryz.f156.ntmps-1) af) st=AK a0 R st:=by kernel_rfl
theorem c156 (a0:LV) {R:LV.RT} {st:aa} (h:AK a0 R st):LZ 156 [a0] st R:=
 ak.of ag Tryz.func156 (show Tryz.f156.body=some (ay Tryz.f156) by kernel_rfl) (by kernel_rfl) (show Tryz.f156.results.toList=[.tmp 2] by kernel_rfl) (aw ag 3000 (Eq.mpr (yF a0 R st) h))
def B1 (a0:LV) (R:LV.RT) (st:aa):Prop:=
 bd (eqB BinOp.eql (qK a0 LV.nils)) fun v0=>aL v0 (R LV.nils st) (bd2 (eO st 0 (aV (fun i=>some (i*1,1)) (List.replicate 0 [LV.nili]).flatten [])) fun v1 st2=>bd2 (a6 st2 1 16 Md.rw v1 a0) fun v3
 st4=>R v3 st4)
theorem yG (a0:LV) (R:LV.RT) (st:aa):bK Tryz.prog [.tmp 2] R [] [] 3000 [.code (ay Tryz.f157)] ([a0]++List.replicate (Tryz.f157.ntmps-1) af) st=B1 a0 R st:=by kernel_rfl
theorem c157 (a0:LV) {R:LV.RT} {st:aa} (h:B1 a0 R st):LZ 157 [a0] st R:=
 ak.of ag Tryz.func157 (show Tryz.f157.body=some (ay Tryz.f157) by kernel_rfl) (by kernel_rfl) (show Tryz.f157.results.toList=[.tmp 2] by kernel_rfl) (aw ag 3000 (Eq.mpr (yG a0 R st) h))
def w46 (a0:LV) (R:LV.RT) (st:aa):Prop:=
 bd2 (cy st a0) fun v0 st1=>bd (aK 0 v0) fun v2=>bd (ld1 st1 v2) fun v3=>bd (asC 169 (some (LV.agg [])) v3 true) fun v4=>bd (ah v4 1) fun v5=>bd (ah v4 0) fun _v6=>aL v5 (R (LV.int
 IntKind.i64 1) st1) (bd (asC 4 (some (LV.bool false)) v3 true) fun v7=>bd (ah v7 1) fun v8=>bd (ah v7 0) fun _v9=>aL v8 (R (LV.int IntKind.i64 2) st1) (bd (asC 3 (some (LV.int IntKind.i64 0)) v3 true)
 fun v10=>bd (ah v10 1) fun v11=>bd (ah v10 0) fun _v12=>aL v11 (R (LV.int IntKind.i64 3) st1) (bd (asC 170 (some (LV.cplx FloatKind.f64 0 0)) v3 true) fun v13=>bd (ah v13 1) fun v14=>bd
 (ah v13 0) fun _v15=>aL v14 (R (LV.int IntKind.i64 4) st1) (bd (asC 9 (some (LV.str [])) v3 true) fun v16=>bd (ah v16 1) fun v17=>bd (ah v16 0) fun _v18=>aL v17 (R (LV.int IntKind.i64 5)
 st1) (bd (asC 171 (some LV.nils) v3 true) fun v19=>bd (ah v19 1) fun v20=>bd (ah v19 0) fun _v21=>aL v20 (R (LV.int IntKind.i64 6) st1) (bd (asC 173 (some LV.nilm) v3 true) fun v22=>bd (ah v22
 1) fun v23=>bd (ah v22 0) fun _v24=>aL v23 (R (LV.int IntKind.i64 7) st1) (R (LV.int IntKind.i64 0) st1)))))))
theorem AL (a0:LV) (R:LV.RT) (st:aa):bK Tryz.prog [.tmp 2] R [] [] 3000 [.code (ay Tryz.f46)] ([a0]++List.replicate (Tryz.f46.ntmps-1) af) st=w46 a0 R st:=by kernel_rfl
theorem c46 (a0:LV) {R:LV.RT} {st:aa} (h:w46 a0 R st):LZ 46 [a0] st R:=
 ak.of ag Tryz.func46 (show Tryz.f46.body=some (ay Tryz.f46) by kernel_rfl) (by kernel_rfl) (show Tryz.f46.results.toList=[.tmp 2] by kernel_rfl) (aw ag 3000 (Eq.mpr (AL a0 R st) h))
def w49 (a0:LV) (R:LV.RT) (st:aa):Prop:=
 bd2 (cy st a0) fun v0 st1=>bd (aK 0 v0) fun v2=>bd (ld1 st1 v2) fun v3=>bd (asC 173 (some LV.nilm) v3 true) fun v4=>bd (ah v4 0) fun v5=>bd (ah v4 1) fun _v6=>LZ 116 [v5] st1
 fun v7 st8=>LZ 115 [v7] st8 fun v9 st10=>R v9 st10
theorem AM (a0:LV) (R:LV.RT) (st:aa):bK Tryz.prog [.tmp 2] R [] [] 3000 [.code (ay Tryz.f49)] ([a0]++List.replicate (Tryz.f49.ntmps-1) af) st=w49 a0 R st:=by kernel_rfl
theorem c49 (a0:LV) {R:LV.RT} {st:aa} (h:w49 a0 R st):LZ 49 [a0] st R:=
 ak.of ag Tryz.func49 (show Tryz.f49.body=some (ay Tryz.f49) by kernel_rfl) (by kernel_rfl) (show Tryz.f49.results.toList=[.tmp 2] by kernel_rfl) (aw ag 3000 (Eq.mpr (AM a0 R st) h))
def B2 (a0:LV) (R:LV.RT) (st:aa):Prop:=
 bd2 (cy st a0) fun v0 st1=>bd (aK 0 v0) fun v2=>bd (ld1 st1 v2) fun v3=>bd (asC 171 (some LV.nils) v3 true) fun v4=>bd (ah v4 0) fun v5=>bd (ah v4 1) fun v6=>aL v6 (LZ 159
 [v5] st1 fun v7 st8=>R v7 st8) (bd (aK 0 v0) fun v9=>bd (ld1 st1 v9) fun v10=>bd (asC 173 (some LV.nilm) v10 true) fun v11=>bd (ah v11 0) fun v12=>bd (ah v11 1) fun _v13=>bd (ldA st1 v0 1) fun
 v14=>LZ 49 [v14] st1 fun v15 st16=>bd (bg v15) fun v17=>nQ LV.nils v12 v15 v17 (LV.int IntKind.i64 0) R st16)
theorem yH (a0:LV) (R:LV.RT) (st:aa):bK Tryz.prog [.tmp 2] R [0,1,2,3,4,7,8,9,10,11,12,13,14,15,16,17,18,19,20,21,22,23,24,25,29,30,31,32,33,34,35,36,37,38,39] [] 3000 [.code (ay Tryz.f101)] ([a0]++List.replicate (Tryz.f101.ntmps-1) af) st=B2 a0 R st:=by kernel_rfl
theorem AN (a0:LV) {R:LV.RT} {st:aa} (h:B2 a0 R st):LZ 101 [a0] st R:=
 ak.of ag Tryz.func101 (show Tryz.f101.body=some (ay Tryz.f101) by kernel_rfl) (by kernel_rfl) (show Tryz.f101.results.toList=[.tmp 2] by kernel_rfl) (aw ag 3000 (Eq.mpr (yH a0 R st) h))
def qe (x5 x6 x26 x27 x28:LV) (R:LV.RT) (st:aa):Prop:=
 bd (aU BinOp.lss x28 x27) fun v0=>aL v0 (bd (bF 1 x26 x28) fun v1=>bd (ld1 st v1) fun v2=>bd (jb st true (some (LV.agg [LV.nili])) x6 v2 false) fun v3=>bd2 (eO st 1 (aV (fun i=>some (i*1,1))
 (List.replicate 1 [LV.nili]).flatten [(0,v3)])) fun v4 st5=>bd2 (a6 st5 1 16 Md.rw x5 v4) fun v6 st7=>bd (aU BinOp.add x28 (LV.int IntKind.i64 1)) fun v8=>nQ v6 x6 x26 x27 v8 R st7) (R x5 st)
theorem vN (x5 x6 x26 x27 x28:LV) (R:LV.RT) (st:aa):bK Tryz.prog [.tmp 2] R [0,1,2,3,4,7,8,9,10,11,12,13,14,15,16,17,18,19,20,21,22,23,24,25,29,30,31,32,33,34,35,36,37,38,39] [] 3000 (bB (bL Tryz.f101 1)) (LV.jk 5 (x5::x6::(LV.jk 19 (x26::x27::x28::(LV.jk 11 []))))) st=qe x5 x6 x26 x27 x28 R st:=by kernel_rfl
theorem tD (x5 x6 x26 x27 x28:LV) {R:LV.RT} {st:aa} (h:qe x5 x6 x26 x27 x28 R st):nQ x5 x6 x26 x27 x28 R st:=
 LT.at ag 3000 (Eq.mpr (vN x5 x6 x26 x27 x28 R st) h)
def B3 (a0:LV) (R:LV.RT) (st:aa):Prop:=
 bd (eqB BinOp.eql (qK a0 LV.nils)) fun v0=>aL v0 (R LV.nils st) (bd2 (eO st 0 (aV (fun i=>some (i*1,1)) (List.replicate 0 [LV.nili]).flatten [])) fun v1 st2=>bd2 (a6 st2 1 16 Md.rw v1 a0) fun v3
 st4=>R v3 st4)
theorem yI (a0:LV) (R:LV.RT) (st:aa):bK Tryz.prog [.tmp 2] R [] [] 3000 [.code (ay Tryz.f159)] ([a0]++List.replicate (Tryz.f159.ntmps-1) af) st=B3 a0 R st:=by kernel_rfl
theorem c159 (a0:LV) {R:LV.RT} {st:aa} (h:B3 a0 R st):LZ 159 [a0] st R:=
 ak.of ag Tryz.func159 (show Tryz.f159.body=some (ay Tryz.f159) by kernel_rfl) (by kernel_rfl) (show Tryz.f159.results.toList=[.tmp 2] by kernel_rfl) (aw ag 3000 (Eq.mpr (yI a0 R st) h))
def w48 (a0 a1:LV) (R:LV.RT) (st:aa):Prop:=
 bd2 (cy st a0) fun v0 st1=>bd2 (cy st1 a1) fun v2 st3=>bd (aK 0 v0) fun v4=>bd (ld1 st3 v4) fun v5=>bd (asC 171 (some LV.nils) v5 true) fun v6=>bd (ah v6 1) fun v7=>bd (ah v6 0) fun v8=>aL v7 (bd (aK 0 v2) fun v9=>bd (ld1 st3 v9) fun v10=>bd (asC 171 (some LV.nils) v10 true) fun v11=>bd (ah v11 0) fun v12=>bd (ah v11 1) fun v13=>aL v13 (LZ 113 [v8,v12,LV.fn
 (Fn.func 48) [] []] st3 fun v14 st15=>R v14 st15) (R (LV.bool false) st3)) (bd (asC 173 (some LV.nilm) v5 true) fun v16=>bd (ah v16 1) fun v17=>bd (ah v16 0) fun v18=>aL v17 (bd (aK 0 v2) fun v19
 => bd (ld1 st3 v19) fun v20=>bd (asC 173 (some LV.nilm) v20 true) fun v21=>bd (ah v21 0) fun v22=>bd (ah v21 1) fun v23=>aL v23 (LZ 114 [v18,v22,LV.fn (Fn.func 48) [] []] st3 fun v24
 st25=>R v24 st25) (R (LV.bool false) st3)) (bd (aK 0 v2) fun v26=>bd (ld1 st3 v26) fun v27=>bd (asC 171 (some LV.nils) v27 true) fun v28=>bd (ah v28 1) fun v29=>bd (ah v28 0) fun _v30=>bd (asC
 173 (some LV.nilm) v27 true) fun v31=>bd (ah v31 1) fun v32=>bd (ah v31 0) fun _v33=>bd (oM v29 (LV.bool true) v32) fun v34=>aL v34 (R (LV.bool false) st3) (bd (aK 0 v0) fun v35=>bd (ld1 st3
 v35) fun v36=>bd (aK 0 v2) fun v37=>bd (ld1 st3 v37) fun v38=>bd (eqB BinOp.eql (mi true (e9 Tryz.prog) v36 v38)) fun v39=>R v39 st3)))
theorem AO (a0 a1:LV) (R:LV.RT) (st:aa):bK Tryz.prog [.tmp 4] R [] [] 3000 [.code (ay Tryz.f48)] ([a0,a1]++List.replicate (Tryz.f48.ntmps-2) af) st=w48 a0 a1 R st:=by kernel_rfl
theorem c48 (a0 a1:LV) {R:LV.RT} {st:aa} (h:w48 a0 a1 R st):LZ 48 [a0,a1] st R:=
 ak.of ag Tryz.func48 (show Tryz.f48.body=some (ay Tryz.f48) by kernel_rfl) (by kernel_rfl) (show Tryz.f48.results.toList=[.tmp 4] by kernel_rfl) (aw ag 3000 (Eq.mpr (AO a0 a1 R st) h))
def AP (a0 a1 a2:LV) (R:LV.RT) (st:aa):Prop:=
 bd (bg a0) fun v0=>bd (bg a1) fun v1=>bd (aU BinOp.neq v0 v1) fun v2=>aL v2 (R (LV.bool false) st) (bd (bg a0) fun v3=>qa a1 a2 a0 v3 (LV.int IntKind.i64 0) R st)
theorem yJ (a0 a1 a2:LV) (R:LV.RT) (st:aa):bK Tryz.prog [.tmp 6] R [0,3,4,5,6,7,8,9,10,11,12,13,14,18,19,20,21,22,23,24,25,26,27,28,29,30,31] [] 3000 [.code (ay Tryz.f113)] ([a0,a1,a2]++List.replicate (Tryz.f113.ntmps-3) af) st=AP a0 a1 a2 R st:=by kernel_rfl
theorem CF (a0 a1 a2:LV) {R:LV.RT} {st:aa} (h:AP a0 a1 a2 R st):LZ 113 [a0,a1,a2] st R:=
 ak.of ag Tryz.func113 (show Tryz.f113.body=some (ay Tryz.f113) by kernel_rfl) (by kernel_rfl) (show Tryz.f113.results.toList=[.tmp 6] by kernel_rfl) (aw ag 3000 (Eq.mpr (yJ a0 a1 a2 R st) h))
def qf (x1 x2 x15 x16 x17:LV) (R:LV.RT) (st:aa):Prop:=
 bd (aU BinOp.lss x17 x16) fun v0=>aL v0 (bd (bF 1 x15 x17) fun v1=>bd (ldA st v1 1) fun v2=>nw st [LV.nili] fun v3 st4=>bd2 (lmk (stV st4 1 v3 v2)) fun _v5 st6=>bd (bF 1 x1 x17) fun v7=>bd (ldA st6 v7
 1) fun v8=>nw st6 [LV.nili] fun v9 st10=>bd2 (lmk (stV st10 1 v9 v8)) fun _v11 st12=>bd (ldA st12 v3 1) fun v13=>bd (ldA st12 v9 1) fun v14=>bd2 (jO x2 [v13,v14]) fun f15 xs16=>LZ f15 xs16
 st12 fun v17 st18=>bd (lun UnOp.not v17) fun v19=>aL v19 (R (LV.bool false) st18) (bd (aU BinOp.add x17 (LV.int IntKind.i64 1)) fun v20=>qa x1 x2 x15 x16 v20 R st18)) (R (LV.bool true) st)
theorem vO (x1 x2 x15 x16 x17:LV) (R:LV.RT) (st:aa):bK Tryz.prog [.tmp 6] R [0,3,4,5,6,7,8,9,10,11,12,13,14,18,19,20,21,22,23,24,25,26,27,28,29,30,31] [] 3000 (bB (bL Tryz.f113 1)) (.aJ::x1::x2::(LV.jk 12 (x15::x16::x17::(LV.jk 14 [])))) st=qf x1 x2 x15 x16 x17 R st:=by kernel_rfl
theorem xf (x1 x2 x15 x16 x17:LV) {R:LV.RT} {st:aa} (h:qf x1 x2 x15 x16 x17 R st):qa x1 x2 x15 x16 x17 R st:=
 LT.at ag 3000 (Eq.mpr (vO x1 x2 x15 x16 x17 R st) h)
def AQ (a0 a1 a2:LV) (R:LV.RT) (st:aa):Prop:=
 bd (kW st a0) fun v0=>bd (kW st a1) fun v1=>bd (aU BinOp.neq v0 v1) fun v2=>aL v2 (R (LV.bool false) st) (bd2 (kT Tryz.prog st 173 a0) fun v3 st4=>qb a1 a2 v3 R st4)
theorem yK (a0 a1 a2:LV) (R:LV.RT) (st:aa):bK Tryz.prog [.tmp 6] R [0,3,4,5,6,7,8,9,10,11,12,13,14,15,16,18,19,20,21,22,23,24,25,26,27,28,29,30,31,32,33,34,35,36,37] [] 3000 [.code (ay Tryz.f114)] ([a0,a1,a2]++List.replicate (Tryz.f114.ntmps-3) af) st=AQ a0 a1 a2 R st:=by kernel_rfl
theorem CG (a0 a1 a2:LV) {R:LV.RT} {st:aa} (h:AQ a0 a1 a2 R st):LZ 114 [a0,a1,a2] st R:=
 ak.of ag Tryz.func114 (show Tryz.f114.body=some (ay Tryz.f114) by kernel_rfl) (by kernel_rfl) (show Tryz.f114.results.toList=[.tmp 6] by kernel_rfl) (aw ag 3000 (Eq.mpr (yK a0 a1 a2 R st) h))
def qg (x1 x2 x17:LV) (R:LV.RT) (st:aa):Prop:=
 fU st x17 fun v0 st1=>bd (ah v0 0) fun v2=>aL v2 (bd (kU st1 x17) fun v3=>bd (ah v3 0) fun v4=>bd (ah v3 1) fun v5=>nw st1 [LV.nili] fun v6 st7=>bd2 (lmk (stV st7 1 v6 v5)) fun _v8
 st9=>bd (jb st9 true (some (LV.agg [LV.nili])) x1 v4 true) fun v10=>bd (ah v10 0) fun v11=>bd (ah v10 1) fun v12=>nw st9 [LV.nili] fun v13 st14=>bd2 (lmk (stV st14 1 v13 v11)) fun _v15 st16=>bd
 (lun UnOp.not v12) fun v17=>aL v17 (R (LV.bool false) st16) (bd (ldA st16 v6 1) fun v18=>bd (ldA st16 v13 1) fun v19=>bd2 (jO x2 [v18,v19]) fun f20 xs21=>LZ f20 xs21 st16 fun v22 st23=>bd
 (lun UnOp.not v22) fun v24=>aL v24 (R (LV.bool false) st23) (qb x1 x2 x17 R st23))) (R (LV.bool true) st1)
theorem vP (x1 x2 x17:LV) (R:LV.RT) (st:aa):bK Tryz.prog [.tmp 6] R [0,3,4,5,6,7,8,9,10,11,12,13,14,15,16,18,19,20,21,22,23,24,25,26,27,28,29,30,31,32,33,34,35,36,37] [] 3000 (bB (bL Tryz.f114 1)) (.aJ::x1::x2::(LV.jk 14 (x17::(LV.jk 20 [])))) st=qg x1 x2 x17 R st:=by kernel_rfl
theorem xg (x1 x2 x17:LV) {R:LV.RT} {st:aa} (h:qg x1 x2 x17 R st):qb x1 x2 x17 R st:=
 LT.at ag 3000 (Eq.mpr (vP x1 x2 x17 R st) h)
def w55 (a0:LV) (R:LV.RT) (st:aa):Prop:=
 bd2 (cy st a0) fun v0 st1=>bd (ldA st1 v0 1) fun v2=>LZ 119 [v2,LV.fn (Fn.func 120) [] []] st1 fun v3 st4=>R v3 st4
theorem AR (a0:LV) (R:LV.RT) (st:aa):bK Tryz.prog [.tmp 2] R [] [] 3000 [.code (ay Tryz.f55)] ([a0]++List.replicate (Tryz.f55.ntmps-1) af) st=w55 a0 R st:=by kernel_rfl
theorem c55 (a0:LV) {R:LV.RT} {st:aa} (h:w55 a0 R st):LZ 55 [a0] st R:=
 ak.of ag Tryz.func55 (show Tryz.f55.body=some (ay Tryz.f55) by kernel_rfl) (by kernel_rfl) (show Tryz.f55.results.toList=[.tmp 2] by kernel_rfl) (aw ag 3000 (Eq.mpr (AR a0 R st) h))
def AU (a0 a1:LV) (R:LV.RT) (st:aa):Prop:=
 bd2 (cy st a0) fun v0 st1=>bd2 (cy st1 a1) fun v2 st3=>bd (ld1 st3 v2) fun v4=>bd (ldA st3 v0 1) fun v5=>bd2 (jO v4 [v5]) fun f6 xs7=>LZ f6 xs7 st3 fun v8 st9=>aL v8 (bd (ldA st9 v0 1)
 fun v10=>LZ 101 [v10] st9 fun v11 st12=>LZ 177 [v11,LV.fn (Fn.func 178) [] [v2]] st12 fun v13 st14=>bd (lun UnOp.not v13) fun v15=>R v15 st14) (R (LV.bool false) st9)
theorem yL (a0 a1:LV) (R:LV.RT) (st:aa):bK Tryz.prog [.tmp 4] R [] [] 3000 [.code (ay Tryz.f119)] ([a0,a1]++List.replicate (Tryz.f119.ntmps-2) af) st=AU a0 a1 R st:=by kernel_rfl
theorem c119 (a0 a1:LV) {R:LV.RT} {st:aa} (h:AU a0 a1 R st):LZ 119 [a0,a1] st R:=
 ak.of ag Tryz.func119 (show Tryz.f119.body=some (ay Tryz.f119) by kernel_rfl) (by kernel_rfl) (show Tryz.f119.results.toList=[.tmp 4] by kernel_rfl) (aw ag 3000 (Eq.mpr (yL a0 a1 R st) h))
def AV (a0:LV) (R:LV.RT) (st:aa):Prop:=
 bd2 (cy st a0) fun v0 st1=>bd (ldA st1 v0 1) fun v2=>LZ 46 [v2] st1 fun v3 st4=>bd (aU BinOp.neq v3 (LV.int IntKind.i64 1)) fun v5=>R v5 st4
theorem yM (a0:LV) (R:LV.RT) (st:aa):bK Tryz.prog [.tmp 2] R [] [] 3000 [.code (ay Tryz.f120)] ([a0]++List.replicate (Tryz.f120.ntmps-1) af) st=AV a0 R st:=by kernel_rfl
theorem CH (a0:LV) {R:LV.RT} {st:aa} (h:AV a0 R st):LZ 120 [a0] st R:=
 ak.of ag Tryz.func120 (show Tryz.f120.body=some (ay Tryz.f120) by kernel_rfl) (by kernel_rfl) (show Tryz.f120.results.toList=[.tmp 2] by kernel_rfl) (aw ag 3000 (Eq.mpr (yM a0 R st) h))
def B4 (a0 a1:LV) (R:LV.RT) (st:aa):Prop:=
 LZ 216 [a0,a1] st fun v0 st1=>bd (aU BinOp.geq v0 (LV.int IntKind.i64 0)) fun v2=>R v2 st1
theorem yN (a0 a1:LV) (R:LV.RT) (st:aa):bK Tryz.prog [.tmp 4] R [] [] 3000 [.code (ay Tryz.f177)] ([a0,a1]++List.replicate (Tryz.f177.ntmps-2) af) st=B4 a0 a1 R st:=by kernel_rfl
theorem CI (a0 a1:LV) {R:LV.RT} {st:aa} (h:B4 a0 a1 R st):LZ 177 [a0,a1] st R:=
 ak.of ag Tryz.func177 (show Tryz.f177.body=some (ay Tryz.f177) by kernel_rfl) (by kernel_rfl) (show Tryz.f177.results.toList=[.tmp 4] by kernel_rfl) (aw ag 3000 (Eq.mpr (yN a0 a1 R st) h))
def AW (a0 a1:LV) (R:LV.RT) (st:aa):Prop:=
 bd2 (cy st a0) fun v0 st1=>bd (ldA st1 v0 1) fun v2=>bd (ld1 st1 a1) fun v3=>LZ 119 [v2,v3] st1 fun v4 st5=>bd (lun UnOp.not v4) fun v6=>R v6 st5
theorem yO (a0 a1:LV) (R:LV.RT) (st:aa):bK Tryz.prog [.tmp 3] R [] [] 3000 [.code (ay Tryz.f178)] ([a0,a1]++List.replicate (Tryz.f178.ntmps-2) af) st=AW a0 a1 R st:=by kernel_rfl
theorem CJ (a0 a1:LV) {R:LV.RT} {st:aa} (h:AW a0 a1 R st):LZ 178 [a0,a1] st R:=
 ak.of ag Tryz.func178 (show Tryz.f178.body=some (ay Tryz.f178) by kernel_rfl) (by kernel_rfl) (show Tryz.f178.results.toList=[.tmp 3] by kernel_rfl) (aw ag 3000 (Eq.mpr (yO a0 a1 R st) h))
def B5 (a0 a1:LV) (R:LV.RT) (st:aa):Prop:=
 bd (bg a0) fun v0=>nR a0 a1 v0 (LV.int IntKind.i64 0) R st
theorem yP (a0 a1:LV) (R:LV.RT) (st:aa):bK Tryz.prog [.tmp 4] R [2,3,4,5,6,9,10,11,12,13,14,15,16,17,18] [] 3000 [.code (ay Tryz.f216)] ([a0,a1]++List.replicate (Tryz.f216.ntmps-2) af) st=B5 a0 a1 R st:=by kernel_rfl
theorem CK (a0 a1:LV) {R:LV.RT} {st:aa} (h:B5 a0 a1 R st):LZ 216 [a0,a1] st R:=
 ak.of ag Tryz.func216 (show Tryz.f216.body=some (ay Tryz.f216) by kernel_rfl) (by kernel_rfl) (show Tryz.f216.results.toList=[.tmp 4] by kernel_rfl) (aw ag 3000 (Eq.mpr (yP a0 a1 R st) h))
def qh (x0 x1 x7 x8:LV) (R:LV.RT) (st:aa):Prop:=
 bd (aU BinOp.lss x8 x7) fun v0=>aL v0 (bd (bF 1 x0 x8) fun v1=>bd (ldA st v1 1) fun v2=>bd2 (jO x1 [v2]) fun f3 xs4=>LZ f3 xs4 st fun v5 st6=>aL v5 (R x8 st6) (bd (aU BinOp.add x8
 (LV.int IntKind.i64 1)) fun v7=>nR x0 x1 x7 v7 R st6)) (R (LV.int IntKind.i64 (-1)) st)
theorem vQ (x0 x1 x7 x8:LV) (R:LV.RT) (st:aa):bK Tryz.prog [.tmp 4] R [2,3,4,5,6,9,10,11,12,13,14,15,16,17,18] [] 3000 (bB (bL Tryz.f216 1)) (x0::x1::(LV.jk 5 (x7::x8::(LV.jk 10 [])))) st=qh x0 x1 x7 x8 R st:=by kernel_rfl
theorem xh (x0 x1 x7 x8:LV) {R:LV.RT} {st:aa} (h:qh x0 x1 x7 x8 R st):nR x0 x1 x7 x8 R st:=
 LT.at ag 3000 (Eq.mpr (vQ x0 x1 x7 x8 R st) h)
def w56 (a0 a1:LV) (R:LV.RT) (st:aa):Prop:=
 bd2 (cy st a0) fun v0 st1=>bd2 (cy st1 a1) fun v2 st3=>bd (ldA st3 v0 1) fun v4=>LZ 46 [v4] st3 fun v5 st6=>bd (aU BinOp.eql v5 (LV.int IntKind.i64 1)) fun v7=>aL v7 (R (LV.bool true) st6)
 (bd (ldA st6 v2 1) fun v8=>LZ 46 [v8] st6 fun v9 st10=>bd (aU BinOp.neq v5 v9) fun v11=>aL v11 (R (LV.bool false) st10) (bd (aU BinOp.eql v5 (LV.int IntKind.i64 6)) fun v12=>aL v12 (bd (ldA
 st10 v0 1) fun v13=>bd (ldA st10 v2 1) fun v14=>LZ 49 [v13] st10 fun v15 st16=>ldA st16 v2 1=some v14∧LZ 49 [v14] st16 fun v17 st18=>LZ 121 [v15,v17] st18 fun v19
 st20=>aL v19 (bd (ldA st20 v0 1) fun v21=>bd (ldA st20 v2 1) fun v22=>LZ 101 [v21] st20 fun v23 st24=>ldA st24 v2 1=some v22∧LZ 101 [v22] st24 fun v25 st26=>LZ
 122 [v23,v25,LV.fn (Fn.func 56) [] []] st26 fun v27 st28=>R v27 st28) (R (LV.bool false) st20)) (bd (aU BinOp.eql v5 (LV.int IntKind.i64 7)) fun v29=>aL v29 (bd (ldA st10 v0 1) fun v30=>bd (ldA st10 v2 1) fun
 v31=>LZ 49 [v30] st10 fun v32 st33=>ldA st33 v2 1=some v31∧LZ 49 [v31] st33 fun v34 st35=>LZ 121 [v32,v34] st35 fun v36 st37=>aL v36 (bd (ldA st37 v0 1) fun v38=>bd (ldA st37 v2 1) fun v39=>LZ 101 [v38] st37 fun v40 st41=>ldA st41 v2 1=some v39∧LZ 101 [v39] st41 fun v42 st43=>LZ 122 [v40,v42,LV.fn (Fn.func 56) [] []] st43 fun
 v44 st45=>R v44 st45) (R (LV.bool false) st37)) (bd (ldA st10 v0 1) fun v46=>bd (ldA st10 v2 1) fun v47=>LZ 48 [v46,v47] st10 fun v48 st49=>R v48 st49))))
theorem AX (a0 a1:LV) (R:LV.RT) (st:aa):bK Tryz.prog [.tmp 4] R [] [] 3000 [.code (ay Tryz.f56)] ([a0,a1]++List.replicate (Tryz.f56.ntmps-2) af) st=w56 a0 a1 R st:=by kernel_rfl
theorem c56 (a0 a1:LV) {R:LV.RT} {st:aa} (h:w56 a0 a1 R st):LZ 56 [a0,a1] st R:=
 ak.of ag Tryz.func56 (show Tryz.f56.body=some (ay Tryz.f56) by kernel_rfl) (by kernel_rfl) (show Tryz.f56.results.toList=[.tmp 4] by kernel_rfl) (aw ag 3000 (Eq.mpr (AX a0 a1 R st) h))
def AY (a0 a1:LV) (R:LV.RT) (st:aa):Prop:=
 bd (bg a0) fun v0=>bd (bg a1) fun v1=>bd (aU BinOp.neq v0 v1) fun v2=>aL v2 (R (LV.bool false) st) (bd (bg a0) fun v3=>qc a0 a1 v3 (LV.int IntKind.i64 0) R st)
theorem yQ (a0 a1:LV) (R:LV.RT) (st:aa):bK Tryz.prog [.tmp 4] R [2,3,4,5,6,7,8,9,10,11,14,15,16,17,18,19,20,21,22,23,24,25] [] 3000 [.code (ay Tryz.f121)] ([a0,a1]++List.replicate (Tryz.f121.ntmps-2) af) st=AY a0 a1 R st:=by kernel_rfl
theorem CL (a0 a1:LV) {R:LV.RT} {st:aa} (h:AY a0 a1 R st):LZ 121 [a0,a1] st R:=
 ak.of ag Tryz.func121 (show Tryz.f121.body=some (ay Tryz.f121) by kernel_rfl) (by kernel_rfl) (show Tryz.f121.results.toList=[.tmp 4] by kernel_rfl) (aw ag 3000 (Eq.mpr (yQ a0 a1 R st) h))
def qi (x0 x1 x12 x13:LV) (R:LV.RT) (st:aa):Prop:=
 bd (aU BinOp.lss x13 x12) fun v0=>aL v0 (bd (bF 1 x0 x13) fun v1=>bd (ld1 st v1) fun v2=>bd (bF 1 x1 x13) fun v3=>bd (ld1 st v3) fun v4=>bd (pC BinOp.neq v2 v4) fun v5=>aL v5 (R (LV.bool false)
 st) (bd (aU BinOp.add x13 (LV.int IntKind.i64 1)) fun v6=>qc x0 x1 x12 v6 R st)) (R (LV.bool true) st)
theorem vS (x0 x1 x12 x13:LV) (R:LV.RT) (st:aa):bK Tryz.prog [.tmp 4] R [2,3,4,5,6,7,8,9,10,11,14,15,16,17,18,19,20,21,22,23,24,25] [] 3000 (bB (bL Tryz.f121 1)) (x0::x1::(LV.jk 10 (x12::x13::(LV.jk 12 [])))) st=qi x0 x1 x12 x13 R st:=by kernel_rfl
theorem xi (x0 x1 x12 x13:LV) {R:LV.RT} {st:aa} (h:qi x0 x1 x12 x13 R st):qc x0 x1 x12 x13 R st:=
 LT.at ag 3000 (Eq.mpr (vS x0 x1 x12 x13 R st) h)
def AZ (a0 a1 a2:LV) (R:LV.RT) (st:aa):Prop:=
 bd (bg a0) fun v0=>bd (bg a1) fun v1=>bd (aU BinOp.neq v0 v1) fun v2=>aL v2 (R (LV.bool false) st) (bd (bg a0) fun v3=>qd a1 a2 a0 v3 (LV.int IntKind.i64 0) R st)
theorem yR (a0 a1 a2:LV) (R:LV.RT) (st:aa):bK Tryz.prog [.tmp 6] R [0,3,4,5,6,7,8,9,10,11,12,13,14,18,19,20,21,22,23,24,25,26,27,28,29,30,31] [] 3000 [.code (ay Tryz.f122)] ([a0,a1,a2]++List.replicate (Tryz.f122.ntmps-3) af) st=AZ a0 a1 a2 R st:=by kernel_rfl
theorem CM (a0 a1 a2:LV) {R:LV.RT} {st:aa} (h:AZ a0 a1 a2 R st):LZ 122 [a0,a1,a2] st R:=
 ak.of ag Tryz.func122 (show Tryz.f122.body=some (ay Tryz.f122) by kernel_rfl) (by kernel_rfl) (show Tryz.f122.results.toList=[.tmp 6] by kernel_rfl) (aw ag 3000 (Eq.mpr (yR a0 a1 a2 R st) h))
def qj (x1 x2 x15 x16 x17:LV) (R:LV.RT) (st:aa):Prop:=
 bd (aU BinOp.lss x17 x16) fun v0=>aL v0 (bd (bF 1 x15 x17) fun v1=>bd (ldA st v1 1) fun v2=>nw st [LV.nili] fun v3 st4=>bd2 (lmk (stV st4 1 v3 v2)) fun _v5 st6=>bd (bF 1 x1 x17) fun v7=>bd (ldA st6 v7
 1) fun v8=>nw st6 [LV.nili] fun v9 st10=>bd2 (lmk (stV st10 1 v9 v8)) fun _v11 st12=>bd (ldA st12 v3 1) fun v13=>bd (ldA st12 v9 1) fun v14=>bd2 (jO x2 [v13,v14]) fun f15 xs16=>LZ f15 xs16
 st12 fun v17 st18=>bd (lun UnOp.not v17) fun v19=>aL v19 (R (LV.bool false) st18) (bd (aU BinOp.add x17 (LV.int IntKind.i64 1)) fun v20=>qd x1 x2 x15 x16 v20 R st18)) (R (LV.bool true) st)
theorem vU (x1 x2 x15 x16 x17:LV) (R:LV.RT) (st:aa):bK Tryz.prog [.tmp 6] R [0,3,4,5,6,7,8,9,10,11,12,13,14,18,19,20,21,22,23,24,25,26,27,28,29,30,31] [] 3000 (bB (bL Tryz.f122 1)) (.aJ::x1::x2::(LV.jk 12 (x15::x16::x17::(LV.jk 14 [])))) st=qj x1 x2 x15 x16 x17 R st:=by kernel_rfl
theorem xj (x1 x2 x15 x16 x17:LV) {R:LV.RT} {st:aa} (h:qj x1 x2 x15 x16 x17 R st):qd x1 x2 x15 x16 x17 R st:=
 LT.at ag 3000 (Eq.mpr (vU x1 x2 x15 x16 x17 R st) h)
end Go.Proofs.YtknegckgmklnhaaGreatDoor
