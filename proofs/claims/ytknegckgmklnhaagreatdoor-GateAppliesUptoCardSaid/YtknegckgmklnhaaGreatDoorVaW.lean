/- Parts of the proof. -/
import Derived.Test.YtknegckgmklnhaaGreatDoorProg
import Derived.Test.YtknegckgmklnhaaGreatDoorCp42
namespace Go.Proofs.YtknegckgmklnhaaGreatDoor
open Go Go.CP
abbrev i64 (n:Int):LV:=.int .i64 n
abbrev LZ (f:FuncId) (xs:List LV) (st:aa) (R:LV.RT):Prop:=aw Tryz.prog f xs st R
set_option maxRecDepth 100000
theorem aJ:Tryz.prog.follows .mixedOrders=true:=by kernel_rfl
def Dw (x1 x3 x4 x5:LV) (R:LV.RT) (st:aa):Prop:=LT Tryz.prog [.tmp 2] (cR Tryz.f24 1) R (.aY::x1::.aY::x3::x4::x5::(LV.jk 68 [])) st
def zy (x1 x3 x4 x5:LV) (R:LV.RT) (st:aa):Prop:=LT Tryz.prog [.tmp 2] (cR Tryz.f24 4) R (.aY::x1::.aY::x3::x4::x5::(LV.jk 68 [])) st
def zA (x1 x2 x5 x6:LV) (R:LV.RT) (st:aa):Prop:=LT Tryz.prog [.cell 2 57] (cR Tryz.f29 2) R (.aY::x1::x2::.aY::.aY::x5::x6::(LV.jk 66 [])) st
def Dx (x1 x4 x6 x18 x19 x20:LV) (R:LV.RT) (st:aa):Prop:=LT Tryz.prog [.cell 4 57,.tmp 5] (cR Tryz.f72 1) R (.aY::x1::.aY::.aY::x4::.aY::x6::(LV.jk 11 (x18::x19::x20::(LV.jk 22 [])))) st
def Dy (x1 x3 x4:LV) (R:LV.RT) (st:aa):Prop:=LT Tryz.prog [.tmp 2] (cR Tryz.f85 1) R (.aY::x1::.aY::x3::x4::(LV.jk 16 [])) st
def Dz (x1 x3 x4:LV) (R:LV.RT) (st:aa):Prop:=LT Tryz.prog [.tmp 2] (cR Tryz.f86 1) R (.aY::x1::.aY::x3::x4::(LV.jk 17 [])) st
def ti (x5 x6 x26 x27 x28:LV) (R:LV.RT) (st:aa):Prop:=LT Tryz.prog [.tmp 2] (cR Tryz.f101 1) R (LV.jk 5 (x5::x6::(LV.jk 19 (x26::x27::x28::(LV.jk 11 []))))) st
def wE (x1 x2 x15 x16 x17:LV) (R:LV.RT) (st:aa):Prop:=LT Tryz.prog [.tmp 6] (cR Tryz.f113 1) R (.aY::x1::x2::(LV.jk 12 (x15::x16::x17::(LV.jk 14 [])))) st
def wF (x1 x2 x17:LV) (R:LV.RT) (st:aa):Prop:=LT Tryz.prog [.tmp 6] (cR Tryz.f114 1) R (.aY::x1::x2::(LV.jk 14 (x17::(LV.jk 20 [])))) st
def wG (x0 x1 x12 x13:LV) (R:LV.RT) (st:aa):Prop:=LT Tryz.prog [.tmp 4] (cR Tryz.f121 1) R (x0::x1::(LV.jk 10 (x12::x13::(LV.jk 12 [])))) st
def wH (x1 x2 x15 x16 x17:LV) (R:LV.RT) (st:aa):Prop:=LT Tryz.prog [.tmp 6] (cR Tryz.f122 1) R (.aY::x1::x2::(LV.jk 12 (x15::x16::x17::(LV.jk 14 [])))) st
def tj (x0 x1 x7 x8:LV) (R:LV.RT) (st:aa):Prop:=LT Tryz.prog [.tmp 4] (cR Tryz.f216 1) R (x0::x1::(LV.jk 5 (x7::x8::(LV.jk 10 [])))) st
def w24 (a0:LV) (R:LV.RT) (st:aa):Prop:=
 bd2 (cu st a0) fun v0 st1=>bd (ag 5 v0) fun v2=>bd (ld1 st1 v2) fun v3=>bd (bB v3) fun v4=>bd (al BinOp.sub v4 (LV.int IntKind.i64 70)) fun v5=>bd (iw [v5,LV.int IntKind.i64 0]) fun v6=>bd
 (ag 6 v0) fun v7=>bd (ld1 st1 v7) fun v8=>bd (bB v8) fun v9=>bd (al BinOp.sub v9 (LV.int IntKind.i64 70)) fun v10=>bd (iw [v10,LV.int IntKind.i64 0]) fun v11=>bd (al BinOp.add v6 v11) fun v12=>bd (ag 4 v0) fun v13=>bd (ld1 st1 v13) fun v14=>bd (cm v14) fun v15=>bd (al BinOp.sub v15 (LV.int IntKind.i64 300)) fun v16=>bd (iw [v16,LV.int IntKind.i64 0]) fun v17=>bd (al BinOp.add v12 v17)
 fun v18=>bd (ldA st1 v0 7) fun v19=>bd (ldA st1 v0 7) fun v20=>LZ 85 [v19] st1 fun v21 st22=>ldA st22 v0 7=some v20∧ld1 st22 v13=some v14∧ld1 st22 v7=some v8∧ld1 st22 v2=some v3∧bd
 (al BinOp.sub v21 (LV.int IntKind.i64 200)) fun v23=>bd (iw [v23,LV.int IntKind.i64 0]) fun v24=>bd (al BinOp.add v18 v24) fun v25=>LZ 86 [v20] st22 fun v26 st27=>ld1 st27 v13=some v14∧
 ld1 st27 v7=some v8∧ld1 st27 v2=some v3∧bd (al BinOp.sub v26 (LV.int IntKind.i64 12)) fun v28=>bd (iw [v28,LV.int IntKind.i64 0]) fun v29=>bd (al BinOp.add v25 v29) fun v30=>Dw v0 v30 (LV.int
 IntKind.i64 0) (LV.tup []) R st27
theorem Nb (a0:LV) (R:LV.RT) (st:aa):cN Tryz.prog [.tmp 2] R [0,2,6,7,8,9,10,11,12,13,14,15,16,17,18,19,20,21,22,23,24,25,26,27,28,29,30,31,32,33,34,35,36,37,38,39,40,41,42,43,44,45,46,47,48,49,50,51,52,53,54,55,56,57,58,59,60,61,62,63,64,65,66,67,68,69,70,71,72,73] [] 3000 [.code (bG Tryz.f24)] ([a0]++List.replicate (Tryz.f24.ntmps-1) aQ) st=w24 a0 R st:=by kernel_rfl
theorem c24 (a0:LV) {R:LV.RT} {st:aa} (h:w24 a0 R st):LZ 24 [a0] st R:=
 aw.of aJ Tryz.func24 (show Tryz.f24.body=some (bG Tryz.f24) by kernel_rfl) (by kernel_rfl) (show Tryz.f24.results.toList=[.tmp 2] by kernel_rfl) (bq aJ 3000 (Eq.mpr (Nb a0 R st) h))
def zB (x1 x3 x4 x5:LV) (R:LV.RT) (st:aa):Prop:=
 bd (ag 6 x1) fun v0=>bd (ld1 st v0) fun v1=>bd (bB v1) fun v2=>bd (al BinOp.lss x4 v2) fun v3=>aq v3 (bd (al BinOp.lss x4 (LV.int IntKind.i64 80)) fun v4=>aq v4 (bd (ag 6 x1) fun v5=>bd (ld1
 st v5) fun v6=>bd (bn 1 v6 x4) fun v7=>bd (ld1 st v7) fun v8=>bd (cm v8) fun v9=>bd (al BinOp.sub v9 (LV.int IntKind.i64 300)) fun v10=>bd (iw [v10,LV.int IntKind.i64 0]) fun v11=>bd (al
 BinOp.add x3 v11) fun v12=>bd (al BinOp.add x4 (LV.int IntKind.i64 1)) fun v13=>Dw x1 v12 v13 x5 R st) (zy x1 x3 x4 (LV.int IntKind.i64 0) R st)) (zy x1 x3 x4 (LV.int IntKind.i64 0) R st)
theorem GS (x1 x3 x4 x5:LV) (R:LV.RT) (st:aa):cN Tryz.prog [.tmp 2] R [0,2,6,7,8,9,10,11,12,13,14,15,16,17,18,19,20,21,22,23,24,25,26,27,28,29,30,31,32,33,34,35,36,37,38,39,40,41,42,43,44,45,46,47,48,49,50,51,52,53,54,55,56,57,58,59,60,61,62,63,64,65,66,67,68,69,70,71,72,73] [] 3000 (dK (cR Tryz.f24 1)) (.aY::x1::.aY::x3::x4::x5::(LV.jk 68 [])) st=zB x1 x3 x4 x5 R st:=by kernel_rfl
theorem GU (x1 x3 x4 x5:LV) {R:LV.RT} {st:aa} (h:zB x1 x3 x4 x5 R st):Dw x1 x3 x4 x5 R st:=
 LT.at aJ 3000 (Eq.mpr (GS x1 x3 x4 x5 R st) h)
def zC (x1 x3 x4 x5:LV) (R:LV.RT) (st:aa):Prop:=
 bd (ag 5 x1) fun v0=>bd (ld1 st v0) fun v1=>bd (bB v1) fun v2=>bd (al BinOp.lss x5 v2) fun v3=>aq v3 (bd (al BinOp.eql x3 (LV.int IntKind.i64 0)) fun v4=>aq v4 (bd (ag 5 x1) fun v5=>bd (ld1
 st v5) fun v6=>bd (bn 7 v6 x5) fun v7=>bd (ldA st v7 7) fun v8=>LZ 24 [v8] st fun v9 st10=>bd (al BinOp.add x3 v9) fun v11=>bd (al BinOp.add x5 (LV.int IntKind.i64 1)) fun v12=>zy x1
 v11 x4 v12 R st10) (R x3 st)) (R x3 st)
theorem GV (x1 x3 x4 x5:LV) (R:LV.RT) (st:aa):cN Tryz.prog [.tmp 2] R [0,2,6,7,8,9,10,11,12,13,14,15,16,17,18,19,20,21,22,23,24,25,26,27,28,29,30,31,32,33,34,35,36,37,38,39,40,41,42,43,44,45,46,47,48,49,50,51,52,53,54,55,56,57,58,59,60,61,62,63,64,65,66,67,68,69,70,71,72,73] [] 3000 (dK (cR Tryz.f24 4)) (.aY::x1::.aY::x3::x4::x5::(LV.jk 68 [])) st=zC x1 x3 x4 x5 R st:=by kernel_rfl
theorem GW (x1 x3 x4 x5:LV) {R:LV.RT} {st:aa} (h:zC x1 x3 x4 x5 R st):zy x1 x3 x4 x5 R st:=
 LT.at aJ 3000 (Eq.mpr (GV x1 x3 x4 x5 R st) h)
def w85 (a0:LV) (R:LV.RT) (st:aa):Prop:=
 bd2 (cu st a0) fun v0 st1=>Dy v0 (LV.int IntKind.i64 1) (LV.int IntKind.i64 0) R st1
theorem Nc (a0:LV) (R:LV.RT) (st:aa):cN Tryz.prog [.tmp 2] R [0,2,5,6,7,8,9,10,11,12,13,14,15,16,17,18,19,20] [] 3000 [.code (bG Tryz.f85)] ([a0]++List.replicate (Tryz.f85.ntmps-1) aQ) st=w85 a0 R st:=by kernel_rfl
theorem c85 (a0:LV) {R:LV.RT} {st:aa} (h:w85 a0 R st):LZ 85 [a0] st R:=
 aw.of aJ Tryz.func85 (show Tryz.f85.body=some (bG Tryz.f85) by kernel_rfl) (by kernel_rfl) (show Tryz.f85.results.toList=[.tmp 2] by kernel_rfl) (bq aJ 3000 (Eq.mpr (Nc a0 R st) h))
def DA (x1 x3 x4:LV) (R:LV.RT) (st:aa):Prop:=
 bd (ag 5 x1) fun v0=>bd (ld1 st v0) fun v1=>bd (bB v1) fun v2=>bd (al BinOp.lss x4 v2) fun v3=>aq v3 (bd (ag 5 x1) fun v4=>bd (ld1 st v4) fun v5=>bd (bn 7 v5 x4) fun v6=>bd (ldA st v6 7) fun
 v7=>LZ 85 [v7] st fun v8 st9=>bd (al BinOp.add x3 v8) fun v10=>bd (al BinOp.add x4 (LV.int IntKind.i64 1)) fun v11=>Dy x1 v10 v11 R st9) (R x3 st)
theorem GX (x1 x3 x4:LV) (R:LV.RT) (st:aa):cN Tryz.prog [.tmp 2] R [0,2,5,6,7,8,9,10,11,12,13,14,15,16,17,18,19,20] [] 3000 (dK (cR Tryz.f85 1)) (.aY::x1::.aY::x3::x4::(LV.jk 16 [])) st=DA x1 x3 x4 R st:=by kernel_rfl
theorem LS (x1 x3 x4:LV) {R:LV.RT} {st:aa} (h:DA x1 x3 x4 R st):Dy x1 x3 x4 R st:=
 LT.at aJ 3000 (Eq.mpr (GX x1 x3 x4 R st) h)
def w86 (a0:LV) (R:LV.RT) (st:aa):Prop:=
 bd2 (cu st a0) fun v0 st1=>Dz v0 (LV.int IntKind.i64 0) (LV.int IntKind.i64 0) R st1
theorem Nd (a0:LV) (R:LV.RT) (st:aa):cN Tryz.prog [.tmp 2] R [0,2,5,6,7,8,9,10,11,12,13,14,15,16,17,18,19,20,21] [] 3000 [.code (bG Tryz.f86)] ([a0]++List.replicate (Tryz.f86.ntmps-1) aQ) st=w86 a0 R st:=by kernel_rfl
theorem c86 (a0:LV) {R:LV.RT} {st:aa} (h:w86 a0 R st):LZ 86 [a0] st R:=
 aw.of aJ Tryz.func86 (show Tryz.f86.body=some (bG Tryz.f86) by kernel_rfl) (by kernel_rfl) (show Tryz.f86.results.toList=[.tmp 2] by kernel_rfl) (bq aJ 3000 (Eq.mpr (Nd a0 R st) h))
def DB (x1 x3 x4:LV) (R:LV.RT) (st:aa):Prop:=
 bd (ag 5 x1) fun v0=>bd (ld1 st v0) fun v1=>bd (bB v1) fun v2=>bd (al BinOp.lss x4 v2) fun v3=>aq v3 (bd (ag 5 x1) fun v4=>bd (ld1 st v4) fun v5=>bd (bn 7 v5 x4) fun v6=>bd (ldA st v6 7) fun
 v7=>LZ 86 [v7] st fun v8 st9=>bd (iw [x3,v8]) fun v10=>bd (al BinOp.add x4 (LV.int IntKind.i64 1)) fun v11=>Dz x1 v10 v11 R st9) (bd (al BinOp.add x3 (LV.int IntKind.i64 1)) fun v12=>R
 v12 st)
theorem GY (x1 x3 x4:LV) (R:LV.RT) (st:aa):cN Tryz.prog [.tmp 2] R [0,2,5,6,7,8,9,10,11,12,13,14,15,16,17,18,19,20,21] [] 3000 (dK (cR Tryz.f86 1)) (.aY::x1::.aY::x3::x4::(LV.jk 17 [])) st=DB x1 x3 x4 R st:=by kernel_rfl
theorem LU (x1 x3 x4:LV) {R:LV.RT} {st:aa} (h:DB x1 x3 x4 R st):Dz x1 x3 x4 R st:=
 LT.at aJ 3000 (Eq.mpr (GY x1 x3 x4 R st) h)
def w29 (a0:LV) (R:LV.RT) (st:aa):Prop:=
 bd2 (cu st a0) fun v0 st1=>nw st1 [LV.nili] fun v2 st3=>bd (ag 0 v0) fun v4=>bd (ld1 st3 v4) fun v5=>bd (al BinOp.eql v5 (LV.int IntKind.i64 1)) fun v6=>aq v6 (LZ 69 [] st3 fun v7 st8=>bd2 (lmk (stV st8 1 v2 v7)) fun _v9 st10=>bd (ldA st10 v2 1) fun v11=>R v11 st10) (bd (al BinOp.eql v5 (LV.int IntKind.i64 2)) fun v12=>aq v12 (bd (ag 1 v0) fun v13=>bd (ld1 st3 v13) fun v14=>aw
 Tryz.prog 92 [v14] st3 fun v15 st16=>bd2 (lmk (stV st16 1 v2 v15)) fun _v17 st18=>bd (ldA st18 v2 1) fun v19=>R v19 st18) (bd (al BinOp.eql v5 (LV.int IntKind.i64 3)) fun v20=>aq v20 (bd (ag 2 v0) fun v21
 => bd (ld1 st3 v21) fun v22=>LZ 73 [v22] st3 fun v23 st24=>bd2 (lmk (stV st24 1 v2 v23)) fun _v25 st26=>bd (ldA st26 v2 1) fun v27=>R v27 st26) (bd (al BinOp.eql v5 (LV.int IntKind.i64 4)) fun v28
 => aq v28 (bd (ag 2 v0) fun v29=>bd (ld1 st3 v29) fun v30=>bd (ag 3 v0) fun v31=>bd (ld1 st3 v31) fun v32=>LZ 93 [v30,v32] st3 fun v33 st34=>bd (ai v33 0) fun v35=>bd (ai
 v33 1) fun _v36=>nw st34 [LV.nili] fun v37 st38=>bd2 (lmk (stV st38 1 v37 v35)) fun _v39 st40=>bd (ldA st40 v37 1) fun v41=>bd2 (lmk (stV st40 1 v2 v41)) fun _v42 st43=>bd (ldA st43 v2 1) fun v44=>R v44 st43)
 (bd (al BinOp.eql v5 (LV.int IntKind.i64 5)) fun v45=>aq v45 (bd (ag 4 v0) fun v46=>bd (ld1 st3 v46) fun v47=>LZ 91 [v47] st3 fun v48 st49=>bd2 (lmk (stV st49 1 v2 v48)) fun _v50 st51=>bd
 (ldA st51 v2 1) fun v52=>R v52 st51) (bd (al BinOp.eql v5 (LV.int IntKind.i64 6)) fun v53=>aq v53 (aq v53 (zA v0 v2 LV.nils (LV.int IntKind.i64 0) R st3) (LZ 66 [] st3 fun v54 st55=>bd2 (lmk
 (stV st55 1 v2 v54)) fun _v56 st57=>bd (ldA st57 v2 1) fun v58=>R v58 st57)) (bd (al BinOp.eql v5 (LV.int IntKind.i64 7)) fun v59=>aq v59 (zA v0 v2 LV.nils (LV.int IntKind.i64 0) R st3) (LZ 66
 [] st3 fun v60 st61=>bd2 (lmk (stV st61 1 v2 v60)) fun _v62 st63=>bd (ldA st63 v2 1) fun v64=>R v64 st63)))))))
theorem Nf (a0:LV) (R:LV.RT) (st:aa):cN Tryz.prog [.cell 2 57] R [0,3,4,7,8,9,10,11,12,13,14,15,16,17,18,19,20,21,22,23,24,25,26,27,28,29,30,31,32,33,34,35,36,37,38,39,40,41,42,43,44,45,46,47,48,49,50,51,52,53,54,55,56,57,58,59,60,61,62,63,64,65,66,67,68,69,70,71,72] [] 3000 [.code (bG Tryz.f29)] ([a0]++List.replicate (Tryz.f29.ntmps-1) aQ) st=w29 a0 R st:=by kernel_rfl
theorem c29 (a0:LV) {R:LV.RT} {st:aa} (h:w29 a0 R st):LZ 29 [a0] st R:=
 aw.of aJ Tryz.func29 (show Tryz.f29.body=some (bG Tryz.f29) by kernel_rfl) (by kernel_rfl) (show Tryz.f29.results.toList=[.cell 2 57] by kernel_rfl) (bq aJ 3000 (Eq.mpr (Nf a0 R st) h))
def DC (x1 x2 x5 x6:LV) (R:LV.RT) (st:aa):Prop:=
 bd (ag 5 x1) fun v0=>bd (ld1 st v0) fun v1=>bd (bB v1) fun v2=>bd (al BinOp.lss x6 v2) fun v3=>aq v3 (bd (ag 5 x1) fun v4=>bd (ld1 st v4) fun v5=>bd (bn 7 v5 x6) fun v6=>bd (ldA st v6 7) fun
 v7=>LZ 29 [v7] st fun v8 st9=>bd2 (cq st9 1 (aB (fun i=>some (i*1,1)) (List.replicate 1 [LV.nili]).flatten [(0,v8)])) fun v10 st11=>bd2 (bo st11 1 16 Md.rw x5 v10) fun v12 st13=>bd
 (al BinOp.add x6 (LV.int IntKind.i64 1)) fun v14=>zA x1 x2 v12 v14 R st13) (bd (ag 0 x1) fun v15=>bd (ld1 st v15) fun v16=>bd (al BinOp.eql v16 (LV.int IntKind.i64 6)) fun v17=>aq v17 (aw
 Tryz.prog 94 [x5] st fun v18 st19=>bd2 (lmk (stV st19 1 x2 v18)) fun _v20 st21=>bd (ldA st21 x2 1) fun v22=>R v22 st21) (bd (ag 6 x1) fun v23=>bd (ld1 st v23) fun v24=>LZ 72 [v24,x5] st fun
 v25 st26=>bd (ai v25 0) fun v27=>bd (ai v25 1) fun _v28=>nw st26 [LV.nili] fun v29 st30=>bd2 (lmk (stV st30 1 v29 v27)) fun _v31 st32=>bd (ldA st32 v29 1) fun v33=>bd2 (lmk (stV st32 1 x2 v33))
 fun _v34 st35=>bd (ldA st35 x2 1) fun v36=>R v36 st35))
theorem GZ (x1 x2 x5 x6:LV) (R:LV.RT) (st:aa):cN Tryz.prog [.cell 2 57] R [0,3,4,7,8,9,10,11,12,13,14,15,16,17,18,19,20,21,22,23,24,25,26,27,28,29,30,31,32,33,34,35,36,37,38,39,40,41,42,43,44,45,46,47,48,49,50,51,52,53,54,55,56,57,58,59,60,61,62,63,64,65,66,67,68,69,70,71,72] [] 3000 (dK (cR Tryz.f29 2)) (.aY::x1::x2::.aY::.aY::x5::x6::(LV.jk 66 [])) st=DC x1 x2 x5 x6 R st:=by kernel_rfl
theorem LW (x1 x2 x5 x6:LV) {R:LV.RT} {st:aa} (h:DC x1 x2 x5 x6 R st):zA x1 x2 x5 x6 R st:=
 LT.at aJ 3000 (Eq.mpr (GZ x1 x2 x5 x6 R st) h)
def w66 (R:LV.RT) (st:aa):Prop:=
 nw st [LV.nili] fun v0 st1=>bd (bh (aB (aF [(0,1)]) [LV.nili] [])) fun v2=>bd2 (lmk (stV st1 1 v0 v2)) fun _v3 st4=>bd (ldA st4 v0 1) fun v5=>R v5 st4
theorem Ng (R:LV.RT) (st:aa):cN Tryz.prog [.cell 0 57] R [] [] 3000 [.code (bG Tryz.f66)] ([]++List.replicate (Tryz.f66.ntmps-0) aQ) st=w66  R st:=by kernel_rfl
theorem c66 {R:LV.RT} {st:aa} (h:w66  R st):LZ 66 [] st R:=
 aw.of aJ Tryz.func66 (show Tryz.f66.body=some (bG Tryz.f66) by kernel_rfl) (by kernel_rfl) (show Tryz.f66.results.toList=[.cell 0 57] by kernel_rfl) (bq aJ 3000 (Eq.mpr (Ng  R st) h))
def w69 (R:LV.RT) (st:aa):Prop:=
 nw st [LV.nili] fun v0 st1=>bd (bh (aB (aF []) [] [])) fun v2=>bd (bh (aB (aF [(0,1)]) [LV.nili] [(0,LV.iface 169 v2)])) fun v3=>bd2 (lmk (stV st1 1 v0 v3)) fun _v4 st5=>bd (ldA st5 v0 1)
 fun v6=>R v6 st5
theorem Nh (R:LV.RT) (st:aa):cN Tryz.prog [.cell 0 57] R [] [] 3000 [.code (bG Tryz.f69)] ([]++List.replicate (Tryz.f69.ntmps-0) aQ) st=w69  R st:=by kernel_rfl
theorem c69 {R:LV.RT} {st:aa} (h:w69  R st):LZ 69 [] st R:=
 aw.of aJ Tryz.func69 (show Tryz.f69.body=some (bG Tryz.f69) by kernel_rfl) (by kernel_rfl) (show Tryz.f69.results.toList=[.cell 0 57] by kernel_rfl) (bq aJ 3000 (Eq.mpr (Nh  R st) h))
def w92 (a0:LV) (R:LV.RT) (st:aa):Prop:=
 nw st [LV.nili] fun v0 st1=>bd (bh (aB (aF [(0,1)]) [LV.nili] [(0,LV.iface 4 a0)])) fun v2=>bd2 (lmk (stV st1 1 v0 v2)) fun _v3 st4=>bd (ldA st4 v0 1) fun v5=>R v5 st4
theorem Ni (a0:LV) (R:LV.RT) (st:aa):cN Tryz.prog [.cell 2 57] R [] [] 3000 [.code (bG Tryz.f92)] ([a0]++List.replicate (Tryz.f92.ntmps-1) aQ) st=w92 a0 R st:=by kernel_rfl
theorem c92 (a0:LV) {R:LV.RT} {st:aa} (h:w92 a0 R st):LZ 92 [a0] st R:=
 aw.of aJ Tryz.func92 (show Tryz.f92.body=some (bG Tryz.f92) by kernel_rfl) (by kernel_rfl) (show Tryz.f92.results.toList=[.cell 2 57] by kernel_rfl) (bq aJ 3000 (Eq.mpr (Ni a0 R st) h))
def w73 (a0:LV) (R:LV.RT) (st:aa):Prop:=
 nw st [LV.nili] fun v0 st1=>bd (bh (aB (aF [(0,1)]) [LV.nili] [(0,LV.iface 3 a0)])) fun v2=>bd2 (lmk (stV st1 1 v0 v2)) fun _v3 st4=>bd (ldA st4 v0 1) fun v5=>R v5 st4
theorem Nj (a0:LV) (R:LV.RT) (st:aa):cN Tryz.prog [.cell 2 57] R [] [] 3000 [.code (bG Tryz.f73)] ([a0]++List.replicate (Tryz.f73.ntmps-1) aQ) st=w73 a0 R st:=by kernel_rfl
theorem c73 (a0:LV) {R:LV.RT} {st:aa} (h:w73 a0 R st):LZ 73 [a0] st R:=
 aw.of aJ Tryz.func73 (show Tryz.f73.body=some (bG Tryz.f73) by kernel_rfl) (by kernel_rfl) (show Tryz.f73.results.toList=[.cell 2 57] by kernel_rfl) (bq aJ 3000 (Eq.mpr (Nj a0 R st) h))
def w93 (a0 a1:LV) (R:LV.RT) (st:aa):Prop:=
 nw st [LV.nili] fun v0 st1=>LZ 156 [a0] st1 fun v2 st3=>bd (lun UnOp.not v2) fun v4=>aq v4 (bd (bh (aB (aF [(0,1)]) [LV.nili] [])) fun v5=>bd2 (lmk (stV st3 1 v0 v5)) fun _v6 st7=>bd
 (ldA st7 v0 1) fun v8=>R (LV.tup [v8,LV.int IntKind.i64 2]) st7) (LZ 156 [a1] st3 fun v9 st10=>bd (lun UnOp.not v9) fun v11=>aq v11 (bd (bh (aB (aF [(0,1)]) [LV.nili] [])) fun v12=>bd2 (lmk (stV st10 1 v0 v12)) fun _v13 st14=>bd (ldA st14 v0 1) fun v15=>R (LV.tup [v15,LV.int IntKind.i64 2]) st14) (bd (Fb FloatKind.f64 a0) fun v16=>bd (Fb FloatKind.f64 a1) fun v17=>bd (Dc v16 v17)
 fun v18=>bd (bh (aB (aF [(0,1)]) [LV.nili] [(0,LV.iface 170 v18)])) fun v19=>bd2 (lmk (stV st10 1 v0 v19)) fun _v20 st21=>bd (ldA st21 v0 1) fun v22=>R (LV.tup [v22,LV.int IntKind.i64 0]) st21))
theorem Nk (a0 a1:LV) (R:LV.RT) (st:aa):cN Tryz.prog [.cell 4 57,.tmp 5] R [] [] 3000 [.code (bG Tryz.f93)] ([a0,a1]++List.replicate (Tryz.f93.ntmps-2) aQ) st=w93 a0 a1 R st:=by kernel_rfl
theorem c93 (a0 a1:LV) {R:LV.RT} {st:aa} (h:w93 a0 a1 R st):LZ 93 [a0,a1] st R:=
 aw.of aJ Tryz.func93 (show Tryz.f93.body=some (bG Tryz.f93) by kernel_rfl) (by kernel_rfl) (show Tryz.f93.results.toList=[.cell 4 57,.tmp 5] by kernel_rfl) (bq aJ 3000 (Eq.mpr (Nk a0 a1 R st) h))
def w91 (a0:LV) (R:LV.RT) (st:aa):Prop:=
 nw st [LV.nili] fun v0 st1=>bd (bh (aB (aF [(0,1)]) [LV.nili] [(0,LV.iface 9 a0)])) fun v2=>bd2 (lmk (stV st1 1 v0 v2)) fun _v3 st4=>bd (ldA st4 v0 1) fun v5=>R v5 st4
theorem Nl (a0:LV) (R:LV.RT) (st:aa):cN Tryz.prog [.cell 2 57] R [] [] 3000 [.code (bG Tryz.f91)] ([a0]++List.replicate (Tryz.f91.ntmps-1) aQ) st=w91 a0 R st:=by kernel_rfl
theorem c91 (a0:LV) {R:LV.RT} {st:aa} (h:w91 a0 R st):LZ 91 [a0] st R:=
 aw.of aJ Tryz.func91 (show Tryz.f91.body=some (bG Tryz.f91) by kernel_rfl) (by kernel_rfl) (show Tryz.f91.results.toList=[.cell 2 57] by kernel_rfl) (bq aJ 3000 (Eq.mpr (Nl a0 R st) h))
def w94 (a0:LV) (R:LV.RT) (st:aa):Prop:=
 nw st [LV.nili] fun v0 st1=>LZ 157 [a0] st1 fun v2 st3=>bd (bh (aB (aF [(0,1)]) [LV.nili] [(0,LV.iface 171 v2)])) fun v4=>bd2 (lmk (stV st3 1 v0 v4)) fun _v5 st6=>bd (ldA st6 v0 1) fun
 v7=>R v7 st6
theorem Nn (a0:LV) (R:LV.RT) (st:aa):cN Tryz.prog [.cell 2 57] R [] [] 3000 [.code (bG Tryz.f94)] ([a0]++List.replicate (Tryz.f94.ntmps-1) aQ) st=w94 a0 R st:=by kernel_rfl
theorem c94 (a0:LV) {R:LV.RT} {st:aa} (h:w94 a0 R st):LZ 94 [a0] st R:=
 aw.of aJ Tryz.func94 (show Tryz.f94.body=some (bG Tryz.f94) by kernel_rfl) (by kernel_rfl) (show Tryz.f94.results.toList=[.cell 2 57] by kernel_rfl) (bq aJ 3000 (Eq.mpr (Nn a0 R st) h))
def w72 (a0 a1:LV) (R:LV.RT) (st:aa):Prop:=
 nw st [LV.nili] fun v0 st1=>bd (bB a0) fun v2=>bd (bB a1) fun v3=>bd (al BinOp.neq v2 v3) fun v4=>aq v4 (bd (bh (aB (aF [(0,1)]) [LV.nili] [])) fun v5=>bd2 (lmk (stV st1 1 v0 v5)) fun _v6
 st7=>bd (ldA st7 v0 1) fun v8=>R (LV.tup [v8,LV.int IntKind.i64 1]) st7) (GB st1 fun v9 st10=>bd (bB a0) fun v11=>Dx a1 v0 v9 a0 v11 (LV.int IntKind.i64 0) R st10)
theorem No (a0 a1:LV) (R:LV.RT) (st:aa):cN Tryz.prog [.cell 4 57,.tmp 5] R [0,2,3,5,7,8,9,10,11,12,13,14,15,16,17,21,22,23,24,25,26,27,28,29,30,31,32,33,34,35,36,37,38,39,40,41,42] [] 3000 [.code (bG Tryz.f72)] ([a0,a1]++List.replicate (Tryz.f72.ntmps-2) aQ) st=w72 a0 a1 R st:=by kernel_rfl
theorem c72 (a0 a1:LV) {R:LV.RT} {st:aa} (h:w72 a0 a1 R st):LZ 72 [a0,a1] st R:=
 aw.of aJ Tryz.func72 (show Tryz.f72.body=some (bG Tryz.f72) by kernel_rfl) (by kernel_rfl) (show Tryz.f72.results.toList=[.cell 4 57,.tmp 5] by kernel_rfl) (bq aJ 3000 (Eq.mpr (No a0 a1 R st) h))
def DD (x1 x4 x6 x18 x19 x20:LV) (R:LV.RT) (st:aa):Prop:=
 bd (al BinOp.lss x20 x19) fun v0=>aq v0 (bd (bn 1 x18 x20) fun v1=>bd (ld1 st v1) fun v2=>bd (so st true (some (LV.agg [LV.nili])) x6 v2 true) fun v3=>bd (ai v3 0) fun v4=>bd (ai v3 1) fun
 v5=>nw st [LV.nili] fun v6 st7=>bd2 (lmk (stV st7 1 v6 v4)) fun _v8 st9=>aq v5 (bd (bh (aB (aF [(0,1)]) [LV.nili] [])) fun v10=>bd2 (lmk (stV st9 1 x4 v10)) fun _v11 st12=>bd (ldA st12 x4 1) fun
 v13=>R (LV.tup [v13,LV.int IntKind.i64 9]) st12) (bd (bn 1 x1 x20) fun v14=>bd (ldA st9 v14 1) fun v15=>bd2 (lmk (GF st9 true x6 v2 v15)) fun _v16 st17=>bd (al BinOp.add x20 (LV.int IntKind.i64 1)) fun v18
 => Dx x1 x4 x6 x18 x19 v18 R st17)) (bd (bh (aB (aF [(0,1)]) [LV.nili] [(0,LV.iface 173 x6)])) fun v19=>bd2 (lmk (stV st 1 x4 v19)) fun _v20 st21=>bd (ldA st21 x4 1) fun v22=>R (LV.tup [v22,LV.int
 IntKind.i64 0]) st21)
theorem G0 (x1 x4 x6 x18 x19 x20:LV) (R:LV.RT) (st:aa):cN Tryz.prog [.cell 4 57,.tmp 5] R [0,2,3,5,7,8,9,10,11,12,13,14,15,16,17,21,22,23,24,25,26,27,28,29,30,31,32,33,34,35,36,37,38,39,40,41,42] [] 3000 (dK (cR Tryz.f72 1)) (.aY::x1::.aY::.aY::x4::.aY::x6::(LV.jk 11 (x18::x19::x20::(LV.jk 22 [])))) st=DD x1 x4 x6 x18 x19 x20 R st:=by kernel_rfl
theorem LY (x1 x4 x6 x18 x19 x20:LV) {R:LV.RT} {st:aa} (h:DD x1 x4 x6 x18 x19 x20 R st):Dx x1 x4 x6 x18 x19 x20 R st:=
 LT.at aJ 3000 (Eq.mpr (G0 x1 x4 x6 x18 x19 x20 R st) h)
def J5 (a0:LV) (R:LV.RT) (st:aa):Prop:=
 bd (al BinOp.geq a0 (LV.int IntKind.i64 (-9007199254740992))) fun v0=>aq v0 (bd (al BinOp.leq a0 (LV.int IntKind.i64 9007199254740992)) fun v1=>R v1 st) (R (LV.bool false) st)
theorem J6 (a0:LV) (R:LV.RT) (st:aa):cN Tryz.prog [.tmp 2] R [] [] 3000 [.code (bG Tryz.f156)] ([a0]++List.replicate (Tryz.f156.ntmps-1) aQ) st=J5 a0 R st:=by kernel_rfl
theorem c156 (a0:LV) {R:LV.RT} {st:aa} (h:J5 a0 R st):LZ 156 [a0] st R:=
 aw.of aJ Tryz.func156 (show Tryz.f156.body=some (bG Tryz.f156) by kernel_rfl) (by kernel_rfl) (show Tryz.f156.results.toList=[.tmp 2] by kernel_rfl) (bq aJ 3000 (Eq.mpr (J6 a0 R st) h))
def O9 (a0:LV) (R:LV.RT) (st:aa):Prop:=
 bd (eqB BinOp.eql (sj a0 LV.nils)) fun v0=>aq v0 (R LV.nils st) (bd2 (cq st 0 (aB (fun i=>some (i*1,1)) (List.replicate 0 [LV.nili]).flatten [])) fun v1 st2=>bd2 (bo st2 1 16 Md.rw v1 a0) fun v3
 st4=>R v3 st4)
theorem J7 (a0:LV) (R:LV.RT) (st:aa):cN Tryz.prog [.tmp 2] R [] [] 3000 [.code (bG Tryz.f157)] ([a0]++List.replicate (Tryz.f157.ntmps-1) aQ) st=O9 a0 R st:=by kernel_rfl
theorem c157 (a0:LV) {R:LV.RT} {st:aa} (h:O9 a0 R st):LZ 157 [a0] st R:=
 aw.of aJ Tryz.func157 (show Tryz.f157.body=some (bG Tryz.f157) by kernel_rfl) (by kernel_rfl) (show Tryz.f157.results.toList=[.tmp 2] by kernel_rfl) (bq aJ 3000 (Eq.mpr (J7 a0 R st) h))
def w46 (a0:LV) (R:LV.RT) (st:aa):Prop:=
 bd2 (cu st a0) fun v0 st1=>bd (ag 0 v0) fun v2=>bd (ld1 st1 v2) fun v3=>bd (asC 169 (some (LV.agg [])) v3 true) fun v4=>bd (ai v4 1) fun v5=>bd (ai v4 0) fun _v6=>aq v5 (R (LV.int
 IntKind.i64 1) st1) (bd (asC 4 (some (LV.bool false)) v3 true) fun v7=>bd (ai v7 1) fun v8=>bd (ai v7 0) fun _v9=>aq v8 (R (LV.int IntKind.i64 2) st1) (bd (asC 3 (some (LV.int IntKind.i64 0)) v3 true)
 fun v10=>bd (ai v10 1) fun v11=>bd (ai v10 0) fun _v12=>aq v11 (R (LV.int IntKind.i64 3) st1) (bd (asC 170 (some (LV.cplx FloatKind.f64 0 0)) v3 true) fun v13=>bd (ai v13 1) fun v14=>bd
 (ai v13 0) fun _v15=>aq v14 (R (LV.int IntKind.i64 4) st1) (bd (asC 9 (some (LV.str [])) v3 true) fun v16=>bd (ai v16 1) fun v17=>bd (ai v16 0) fun _v18=>aq v17 (R (LV.int IntKind.i64 5)
 st1) (bd (asC 171 (some LV.nils) v3 true) fun v19=>bd (ai v19 1) fun v20=>bd (ai v19 0) fun _v21=>aq v20 (R (LV.int IntKind.i64 6) st1) (bd (asC 173 (some LV.nilm) v3 true) fun v22=>bd (ai v22
 1) fun v23=>bd (ai v22 0) fun _v24=>aq v23 (R (LV.int IntKind.i64 7) st1) (R (LV.int IntKind.i64 0) st1)))))))
theorem Np (a0:LV) (R:LV.RT) (st:aa):cN Tryz.prog [.tmp 2] R [] [] 3000 [.code (bG Tryz.f46)] ([a0]++List.replicate (Tryz.f46.ntmps-1) aQ) st=w46 a0 R st:=by kernel_rfl
theorem c46 (a0:LV) {R:LV.RT} {st:aa} (h:w46 a0 R st):LZ 46 [a0] st R:=
 aw.of aJ Tryz.func46 (show Tryz.f46.body=some (bG Tryz.f46) by kernel_rfl) (by kernel_rfl) (show Tryz.f46.results.toList=[.tmp 2] by kernel_rfl) (bq aJ 3000 (Eq.mpr (Np a0 R st) h))
def w49 (a0:LV) (R:LV.RT) (st:aa):Prop:=
 bd2 (cu st a0) fun v0 st1=>bd (ag 0 v0) fun v2=>bd (ld1 st1 v2) fun v3=>bd (asC 173 (some LV.nilm) v3 true) fun v4=>bd (ai v4 0) fun v5=>bd (ai v4 1) fun _v6=>LZ 116 [v5] st1
 fun v7 st8=>LZ 115 [v7] st8 fun v9 st10=>R v9 st10
theorem Nq (a0:LV) (R:LV.RT) (st:aa):cN Tryz.prog [.tmp 2] R [] [] 3000 [.code (bG Tryz.f49)] ([a0]++List.replicate (Tryz.f49.ntmps-1) aQ) st=w49 a0 R st:=by kernel_rfl
theorem c49 (a0:LV) {R:LV.RT} {st:aa} (h:w49 a0 R st):LZ 49 [a0] st R:=
 aw.of aJ Tryz.func49 (show Tryz.f49.body=some (bG Tryz.f49) by kernel_rfl) (by kernel_rfl) (show Tryz.f49.results.toList=[.tmp 2] by kernel_rfl) (bq aJ 3000 (Eq.mpr (Nq a0 R st) h))
def Pa (a0:LV) (R:LV.RT) (st:aa):Prop:=
 bd2 (cu st a0) fun v0 st1=>bd (ag 0 v0) fun v2=>bd (ld1 st1 v2) fun v3=>bd (asC 171 (some LV.nils) v3 true) fun v4=>bd (ai v4 0) fun v5=>bd (ai v4 1) fun v6=>aq v6 (LZ 159
 [v5] st1 fun v7 st8=>R v7 st8) (bd (ag 0 v0) fun v9=>bd (ld1 st1 v9) fun v10=>bd (asC 173 (some LV.nilm) v10 true) fun v11=>bd (ai v11 0) fun v12=>bd (ai v11 1) fun _v13=>bd (ldA st1 v0 1) fun
 v14=>LZ 49 [v14] st1 fun v15 st16=>bd (bB v15) fun v17=>ti LV.nils v12 v15 v17 (LV.int IntKind.i64 0) R st16)
theorem J8 (a0:LV) (R:LV.RT) (st:aa):cN Tryz.prog [.tmp 2] R [0,1,2,3,4,7,8,9,10,11,12,13,14,15,16,17,18,19,20,21,22,23,24,25,29,30,31,32,33,34,35,36,37,38,39] [] 3000 [.code (bG Tryz.f101)] ([a0]++List.replicate (Tryz.f101.ntmps-1) aQ) st=Pa a0 R st:=by kernel_rfl
theorem Nr (a0:LV) {R:LV.RT} {st:aa} (h:Pa a0 R st):LZ 101 [a0] st R:=
 aw.of aJ Tryz.func101 (show Tryz.f101.body=some (bG Tryz.f101) by kernel_rfl) (by kernel_rfl) (show Tryz.f101.results.toList=[.tmp 2] by kernel_rfl) (bq aJ 3000 (Eq.mpr (J8 a0 R st) h))
def wI (x5 x6 x26 x27 x28:LV) (R:LV.RT) (st:aa):Prop:=
 bd (al BinOp.lss x28 x27) fun v0=>aq v0 (bd (bn 1 x26 x28) fun v1=>bd (ld1 st v1) fun v2=>bd (so st true (some (LV.agg [LV.nili])) x6 v2 false) fun v3=>bd2 (cq st 1 (aB (fun i=>some (i*1,1))
 (List.replicate 1 [LV.nili]).flatten [(0,v3)])) fun v4 st5=>bd2 (bo st5 1 16 Md.rw x5 v4) fun v6 st7=>bd (al BinOp.add x28 (LV.int IntKind.i64 1)) fun v8=>ti v6 x6 x26 x27 v8 R st7) (R x5 st)
theorem FC (x5 x6 x26 x27 x28:LV) (R:LV.RT) (st:aa):cN Tryz.prog [.tmp 2] R [0,1,2,3,4,7,8,9,10,11,12,13,14,15,16,17,18,19,20,21,22,23,24,25,29,30,31,32,33,34,35,36,37,38,39] [] 3000 (dK (cR Tryz.f101 1)) (LV.jk 5 (x5::x6::(LV.jk 19 (x26::x27::x28::(LV.jk 11 []))))) st=wI x5 x6 x26 x27 x28 R st:=by kernel_rfl
theorem BE (x5 x6 x26 x27 x28:LV) {R:LV.RT} {st:aa} (h:wI x5 x6 x26 x27 x28 R st):ti x5 x6 x26 x27 x28 R st:=
 LT.at aJ 3000 (Eq.mpr (FC x5 x6 x26 x27 x28 R st) h)
def Pc (a0:LV) (R:LV.RT) (st:aa):Prop:=
 bd (eqB BinOp.eql (sj a0 LV.nils)) fun v0=>aq v0 (R LV.nils st) (bd2 (cq st 0 (aB (fun i=>some (i*1,1)) (List.replicate 0 [LV.nili]).flatten [])) fun v1 st2=>bd2 (bo st2 1 16 Md.rw v1 a0) fun v3
 st4=>R v3 st4)
theorem J9 (a0:LV) (R:LV.RT) (st:aa):cN Tryz.prog [.tmp 2] R [] [] 3000 [.code (bG Tryz.f159)] ([a0]++List.replicate (Tryz.f159.ntmps-1) aQ) st=Pc a0 R st:=by kernel_rfl
theorem c159 (a0:LV) {R:LV.RT} {st:aa} (h:Pc a0 R st):LZ 159 [a0] st R:=
 aw.of aJ Tryz.func159 (show Tryz.f159.body=some (bG Tryz.f159) by kernel_rfl) (by kernel_rfl) (show Tryz.f159.results.toList=[.tmp 2] by kernel_rfl) (bq aJ 3000 (Eq.mpr (J9 a0 R st) h))
def w50 (a0 a1:LV) (R:LV.RT) (st:aa):Prop:=
 bd2 (cu st a0) fun v0 st1=>nw st1 [LV.nili] fun v2 st3=>bd (ag 0 v0) fun v4=>bd (ld1 st3 v4) fun v5=>bd (asC 173 (some LV.nilm) v5 true) fun v6=>bd (ai v6 0) fun v7=>bd (ai v6 1) fun _v8=>bd (so st3 true (some (LV.agg [LV.nili])) v7 a1 true) fun v9=>bd (ai v9 0) fun v10=>bd (ai v9 1) fun v11=>nw st3 [LV.nili] fun v12 st13=>bd2 (lmk (stV st13 1 v12 v10)) fun _v14 st15=>bd (ldA st15
 v12 1) fun v16=>bd2 (lmk (stV st15 1 v2 v16)) fun _v17 st18=>bd (ldA st18 v2 1) fun v19=>R (LV.tup [v19,v11]) st18
theorem Ns (a0 a1:LV) (R:LV.RT) (st:aa):cN Tryz.prog [.cell 4 57,.tmp 5] R [] [] 3000 [.code (bG Tryz.f50)] ([a0,a1]++List.replicate (Tryz.f50.ntmps-2) aQ) st=w50 a0 a1 R st:=by kernel_rfl
theorem c50 (a0 a1:LV) {R:LV.RT} {st:aa} (h:w50 a0 a1 R st):LZ 50 [a0,a1] st R:=
 aw.of aJ Tryz.func50 (show Tryz.f50.body=some (bG Tryz.f50) by kernel_rfl) (by kernel_rfl) (show Tryz.f50.results.toList=[.cell 4 57,.tmp 5] by kernel_rfl) (bq aJ 3000 (Eq.mpr (Ns a0 a1 R st) h))
def w48 (a0 a1:LV) (R:LV.RT) (st:aa):Prop:=
 bd2 (cu st a0) fun v0 st1=>bd2 (cu st1 a1) fun v2 st3=>bd (ag 0 v0) fun v4=>bd (ld1 st3 v4) fun v5=>bd (asC 171 (some LV.nils) v5 true) fun v6=>bd (ai v6 1) fun v7=>bd (ai v6 0) fun v8=>aq v7 (bd (ag 0 v2) fun v9=>bd (ld1 st3 v9) fun v10=>bd (asC 171 (some LV.nils) v10 true) fun v11=>bd (ai v11 0) fun v12=>bd (ai v11 1) fun v13=>aq v13 (LZ 113 [v8,v12,LV.fn
 (Fn.func 48) [] []] st3 fun v14 st15=>R v14 st15) (R (LV.bool false) st3)) (bd (asC 173 (some LV.nilm) v5 true) fun v16=>bd (ai v16 1) fun v17=>bd (ai v16 0) fun v18=>aq v17 (bd (ag 0 v2) fun v19
 => bd (ld1 st3 v19) fun v20=>bd (asC 173 (some LV.nilm) v20 true) fun v21=>bd (ai v21 0) fun v22=>bd (ai v21 1) fun v23=>aq v23 (LZ 114 [v18,v22,LV.fn (Fn.func 48) [] []] st3 fun v24
 st25=>R v24 st25) (R (LV.bool false) st3)) (bd (ag 0 v2) fun v26=>bd (ld1 st3 v26) fun v27=>bd (asC 171 (some LV.nils) v27 true) fun v28=>bd (ai v28 1) fun v29=>bd (ai v28 0) fun _v30=>bd (asC
 173 (some LV.nilm) v27 true) fun v31=>bd (ai v31 1) fun v32=>bd (ai v31 0) fun _v33=>bd (uO v29 (LV.bool true) v32) fun v34=>aq v34 (R (LV.bool false) st3) (bd (ag 0 v0) fun v35=>bd (ld1 st3
 v35) fun v36=>bd (ag 0 v2) fun v37=>bd (ld1 st3 v37) fun v38=>bd (eqB BinOp.eql (sk true (iP Tryz.prog) v36 v38)) fun v39=>R v39 st3)))
theorem Nt (a0 a1:LV) (R:LV.RT) (st:aa):cN Tryz.prog [.tmp 4] R [] [] 3000 [.code (bG Tryz.f48)] ([a0,a1]++List.replicate (Tryz.f48.ntmps-2) aQ) st=w48 a0 a1 R st:=by kernel_rfl
theorem c48 (a0 a1:LV) {R:LV.RT} {st:aa} (h:w48 a0 a1 R st):LZ 48 [a0,a1] st R:=
 aw.of aJ Tryz.func48 (show Tryz.f48.body=some (bG Tryz.f48) by kernel_rfl) (by kernel_rfl) (show Tryz.f48.results.toList=[.tmp 4] by kernel_rfl) (bq aJ 3000 (Eq.mpr (Nt a0 a1 R st) h))
def Nu (a0 a1 a2:LV) (R:LV.RT) (st:aa):Prop:=
 bd (bB a0) fun v0=>bd (bB a1) fun v1=>bd (al BinOp.neq v0 v1) fun v2=>aq v2 (R (LV.bool false) st) (bd (bB a0) fun v3=>wE a1 a2 a0 v3 (LV.int IntKind.i64 0) R st)
theorem Ka (a0 a1 a2:LV) (R:LV.RT) (st:aa):cN Tryz.prog [.tmp 6] R [0,3,4,5,6,7,8,9,10,11,12,13,14,18,19,20,21,22,23,24,25,26,27,28,29,30,31] [] 3000 [.code (bG Tryz.f113)] ([a0,a1,a2]++List.replicate (Tryz.f113.ntmps-3) aQ) st=Nu a0 a1 a2 R st:=by kernel_rfl
theorem QI (a0 a1 a2:LV) {R:LV.RT} {st:aa} (h:Nu a0 a1 a2 R st):LZ 113 [a0,a1,a2] st R:=
 aw.of aJ Tryz.func113 (show Tryz.f113.body=some (bG Tryz.f113) by kernel_rfl) (by kernel_rfl) (show Tryz.f113.results.toList=[.tmp 6] by kernel_rfl) (bq aJ 3000 (Eq.mpr (Ka a0 a1 a2 R st) h))
def wJ (x1 x2 x15 x16 x17:LV) (R:LV.RT) (st:aa):Prop:=
 bd (al BinOp.lss x17 x16) fun v0=>aq v0 (bd (bn 1 x15 x17) fun v1=>bd (ldA st v1 1) fun v2=>nw st [LV.nili] fun v3 st4=>bd2 (lmk (stV st4 1 v3 v2)) fun _v5 st6=>bd (bn 1 x1 x17) fun v7=>bd (ldA st6 v7
 1) fun v8=>nw st6 [LV.nili] fun v9 st10=>bd2 (lmk (stV st10 1 v9 v8)) fun _v11 st12=>bd (ldA st12 v3 1) fun v13=>bd (ldA st12 v9 1) fun v14=>bd2 (qe x2 [v13,v14]) fun f15 xs16=>LZ f15 xs16
 st12 fun v17 st18=>bd (lun UnOp.not v17) fun v19=>aq v19 (R (LV.bool false) st18) (bd (al BinOp.add x17 (LV.int IntKind.i64 1)) fun v20=>wE x1 x2 x15 x16 v20 R st18)) (R (LV.bool true) st)
theorem FD (x1 x2 x15 x16 x17:LV) (R:LV.RT) (st:aa):cN Tryz.prog [.tmp 6] R [0,3,4,5,6,7,8,9,10,11,12,13,14,18,19,20,21,22,23,24,25,26,27,28,29,30,31] [] 3000 (dK (cR Tryz.f113 1)) (.aY::x1::x2::(LV.jk 12 (x15::x16::x17::(LV.jk 14 [])))) st=wJ x1 x2 x15 x16 x17 R st:=by kernel_rfl
theorem G1 (x1 x2 x15 x16 x17:LV) {R:LV.RT} {st:aa} (h:wJ x1 x2 x15 x16 x17 R st):wE x1 x2 x15 x16 x17 R st:=
 LT.at aJ 3000 (Eq.mpr (FD x1 x2 x15 x16 x17 R st) h)
def Nv (a0 a1 a2:LV) (R:LV.RT) (st:aa):Prop:=
 bd (qa st a0) fun v0=>bd (qa st a1) fun v1=>bd (al BinOp.neq v0 v1) fun v2=>aq v2 (R (LV.bool false) st) (bd2 (pY Tryz.prog st 173 a0) fun v3 st4=>wF a1 a2 v3 R st4)
theorem Kb (a0 a1 a2:LV) (R:LV.RT) (st:aa):cN Tryz.prog [.tmp 6] R [0,3,4,5,6,7,8,9,10,11,12,13,14,15,16,18,19,20,21,22,23,24,25,26,27,28,29,30,31,32,33,34,35,36,37] [] 3000 [.code (bG Tryz.f114)] ([a0,a1,a2]++List.replicate (Tryz.f114.ntmps-3) aQ) st=Nv a0 a1 a2 R st:=by kernel_rfl
theorem QJ (a0 a1 a2:LV) {R:LV.RT} {st:aa} (h:Nv a0 a1 a2 R st):LZ 114 [a0,a1,a2] st R:=
 aw.of aJ Tryz.func114 (show Tryz.f114.body=some (bG Tryz.f114) by kernel_rfl) (by kernel_rfl) (show Tryz.f114.results.toList=[.tmp 6] by kernel_rfl) (bq aJ 3000 (Eq.mpr (Kb a0 a1 a2 R st) h))
def wK (x1 x2 x17:LV) (R:LV.RT) (st:aa):Prop:=
 lr st x17 fun v0 st1=>bd (ai v0 0) fun v2=>aq v2 (bd (pZ st1 x17) fun v3=>bd (ai v3 0) fun v4=>bd (ai v3 1) fun v5=>nw st1 [LV.nili] fun v6 st7=>bd2 (lmk (stV st7 1 v6 v5)) fun _v8
 st9=>bd (so st9 true (some (LV.agg [LV.nili])) x1 v4 true) fun v10=>bd (ai v10 0) fun v11=>bd (ai v10 1) fun v12=>nw st9 [LV.nili] fun v13 st14=>bd2 (lmk (stV st14 1 v13 v11)) fun _v15 st16=>bd
 (lun UnOp.not v12) fun v17=>aq v17 (R (LV.bool false) st16) (bd (ldA st16 v6 1) fun v18=>bd (ldA st16 v13 1) fun v19=>bd2 (qe x2 [v18,v19]) fun f20 xs21=>LZ f20 xs21 st16 fun v22 st23=>bd
 (lun UnOp.not v22) fun v24=>aq v24 (R (LV.bool false) st23) (wF x1 x2 x17 R st23))) (R (LV.bool true) st1)
theorem FE (x1 x2 x17:LV) (R:LV.RT) (st:aa):cN Tryz.prog [.tmp 6] R [0,3,4,5,6,7,8,9,10,11,12,13,14,15,16,18,19,20,21,22,23,24,25,26,27,28,29,30,31,32,33,34,35,36,37] [] 3000 (dK (cR Tryz.f114 1)) (.aY::x1::x2::(LV.jk 14 (x17::(LV.jk 20 [])))) st=wK x1 x2 x17 R st:=by kernel_rfl
theorem G2 (x1 x2 x17:LV) {R:LV.RT} {st:aa} (h:wK x1 x2 x17 R st):wF x1 x2 x17 R st:=
 LT.at aJ 3000 (Eq.mpr (FE x1 x2 x17 R st) h)
def w55 (a0:LV) (R:LV.RT) (st:aa):Prop:=
 bd2 (cu st a0) fun v0 st1=>bd (ldA st1 v0 1) fun v2=>LZ 119 [v2,LV.fn (Fn.func 120) [] []] st1 fun v3 st4=>R v3 st4
theorem Nw (a0:LV) (R:LV.RT) (st:aa):cN Tryz.prog [.tmp 2] R [] [] 3000 [.code (bG Tryz.f55)] ([a0]++List.replicate (Tryz.f55.ntmps-1) aQ) st=w55 a0 R st:=by kernel_rfl
theorem c55 (a0:LV) {R:LV.RT} {st:aa} (h:w55 a0 R st):LZ 55 [a0] st R:=
 aw.of aJ Tryz.func55 (show Tryz.f55.body=some (bG Tryz.f55) by kernel_rfl) (by kernel_rfl) (show Tryz.f55.results.toList=[.tmp 2] by kernel_rfl) (bq aJ 3000 (Eq.mpr (Nw a0 R st) h))
def Nx (a0 a1:LV) (R:LV.RT) (st:aa):Prop:=
 bd2 (cu st a0) fun v0 st1=>bd2 (cu st1 a1) fun v2 st3=>bd (ld1 st3 v2) fun v4=>bd (ldA st3 v0 1) fun v5=>bd2 (qe v4 [v5]) fun f6 xs7=>LZ f6 xs7 st3 fun v8 st9=>aq v8 (bd (ldA st9 v0 1)
 fun v10=>LZ 101 [v10] st9 fun v11 st12=>LZ 177 [v11,LV.fn (Fn.func 178) [] [v2]] st12 fun v13 st14=>bd (lun UnOp.not v13) fun v15=>R v15 st14) (R (LV.bool false) st9)
theorem Kc (a0 a1:LV) (R:LV.RT) (st:aa):cN Tryz.prog [.tmp 4] R [] [] 3000 [.code (bG Tryz.f119)] ([a0,a1]++List.replicate (Tryz.f119.ntmps-2) aQ) st=Nx a0 a1 R st:=by kernel_rfl
theorem c119 (a0 a1:LV) {R:LV.RT} {st:aa} (h:Nx a0 a1 R st):LZ 119 [a0,a1] st R:=
 aw.of aJ Tryz.func119 (show Tryz.f119.body=some (bG Tryz.f119) by kernel_rfl) (by kernel_rfl) (show Tryz.f119.results.toList=[.tmp 4] by kernel_rfl) (bq aJ 3000 (Eq.mpr (Kc a0 a1 R st) h))
def Ny (a0:LV) (R:LV.RT) (st:aa):Prop:=
 bd2 (cu st a0) fun v0 st1=>bd (ldA st1 v0 1) fun v2=>LZ 46 [v2] st1 fun v3 st4=>bd (al BinOp.neq v3 (LV.int IntKind.i64 1)) fun v5=>R v5 st4
theorem Kd (a0:LV) (R:LV.RT) (st:aa):cN Tryz.prog [.tmp 2] R [] [] 3000 [.code (bG Tryz.f120)] ([a0]++List.replicate (Tryz.f120.ntmps-1) aQ) st=Ny a0 R st:=by kernel_rfl
theorem QK (a0:LV) {R:LV.RT} {st:aa} (h:Ny a0 R st):LZ 120 [a0] st R:=
 aw.of aJ Tryz.func120 (show Tryz.f120.body=some (bG Tryz.f120) by kernel_rfl) (by kernel_rfl) (show Tryz.f120.results.toList=[.tmp 2] by kernel_rfl) (bq aJ 3000 (Eq.mpr (Kd a0 R st) h))
def Pd (a0 a1:LV) (R:LV.RT) (st:aa):Prop:=
 LZ 216 [a0,a1] st fun v0 st1=>bd (al BinOp.geq v0 (LV.int IntKind.i64 0)) fun v2=>R v2 st1
theorem Ke (a0 a1:LV) (R:LV.RT) (st:aa):cN Tryz.prog [.tmp 4] R [] [] 3000 [.code (bG Tryz.f177)] ([a0,a1]++List.replicate (Tryz.f177.ntmps-2) aQ) st=Pd a0 a1 R st:=by kernel_rfl
theorem QL (a0 a1:LV) {R:LV.RT} {st:aa} (h:Pd a0 a1 R st):LZ 177 [a0,a1] st R:=
 aw.of aJ Tryz.func177 (show Tryz.f177.body=some (bG Tryz.f177) by kernel_rfl) (by kernel_rfl) (show Tryz.f177.results.toList=[.tmp 4] by kernel_rfl) (bq aJ 3000 (Eq.mpr (Ke a0 a1 R st) h))
def Nz (a0 a1:LV) (R:LV.RT) (st:aa):Prop:=
 bd2 (cu st a0) fun v0 st1=>bd (ldA st1 v0 1) fun v2=>bd (ld1 st1 a1) fun v3=>LZ 119 [v2,v3] st1 fun v4 st5=>bd (lun UnOp.not v4) fun v6=>R v6 st5
theorem Kf (a0 a1:LV) (R:LV.RT) (st:aa):cN Tryz.prog [.tmp 3] R [] [] 3000 [.code (bG Tryz.f178)] ([a0,a1]++List.replicate (Tryz.f178.ntmps-2) aQ) st=Nz a0 a1 R st:=by kernel_rfl
theorem QM (a0 a1:LV) {R:LV.RT} {st:aa} (h:Nz a0 a1 R st):LZ 178 [a0,a1] st R:=
 aw.of aJ Tryz.func178 (show Tryz.f178.body=some (bG Tryz.f178) by kernel_rfl) (by kernel_rfl) (show Tryz.f178.results.toList=[.tmp 3] by kernel_rfl) (bq aJ 3000 (Eq.mpr (Kf a0 a1 R st) h))
def Pe (a0 a1:LV) (R:LV.RT) (st:aa):Prop:=
 bd (bB a0) fun v0=>tj a0 a1 v0 (LV.int IntKind.i64 0) R st
theorem Kg (a0 a1:LV) (R:LV.RT) (st:aa):cN Tryz.prog [.tmp 4] R [2,3,4,5,6,9,10,11,12,13,14,15,16,17,18] [] 3000 [.code (bG Tryz.f216)] ([a0,a1]++List.replicate (Tryz.f216.ntmps-2) aQ) st=Pe a0 a1 R st:=by kernel_rfl
theorem QN (a0 a1:LV) {R:LV.RT} {st:aa} (h:Pe a0 a1 R st):LZ 216 [a0,a1] st R:=
 aw.of aJ Tryz.func216 (show Tryz.f216.body=some (bG Tryz.f216) by kernel_rfl) (by kernel_rfl) (show Tryz.f216.results.toList=[.tmp 4] by kernel_rfl) (bq aJ 3000 (Eq.mpr (Kg a0 a1 R st) h))
def wL (x0 x1 x7 x8:LV) (R:LV.RT) (st:aa):Prop:=
 bd (al BinOp.lss x8 x7) fun v0=>aq v0 (bd (bn 1 x0 x8) fun v1=>bd (ldA st v1 1) fun v2=>bd2 (qe x1 [v2]) fun f3 xs4=>LZ f3 xs4 st fun v5 st6=>aq v5 (R x8 st6) (bd (al BinOp.add x8
 (LV.int IntKind.i64 1)) fun v7=>tj x0 x1 x7 v7 R st6)) (R (LV.int IntKind.i64 (-1)) st)
theorem FF (x0 x1 x7 x8:LV) (R:LV.RT) (st:aa):cN Tryz.prog [.tmp 4] R [2,3,4,5,6,9,10,11,12,13,14,15,16,17,18] [] 3000 (dK (cR Tryz.f216 1)) (x0::x1::(LV.jk 5 (x7::x8::(LV.jk 10 [])))) st=wL x0 x1 x7 x8 R st:=by kernel_rfl
theorem G4 (x0 x1 x7 x8:LV) {R:LV.RT} {st:aa} (h:wL x0 x1 x7 x8 R st):tj x0 x1 x7 x8 R st:=
 LT.at aJ 3000 (Eq.mpr (FF x0 x1 x7 x8 R st) h)
def w56 (a0 a1:LV) (R:LV.RT) (st:aa):Prop:=
 bd2 (cu st a0) fun v0 st1=>bd2 (cu st1 a1) fun v2 st3=>bd (ldA st3 v0 1) fun v4=>LZ 46 [v4] st3 fun v5 st6=>bd (al BinOp.eql v5 (LV.int IntKind.i64 1)) fun v7=>aq v7 (R (LV.bool true) st6)
 (bd (ldA st6 v2 1) fun v8=>LZ 46 [v8] st6 fun v9 st10=>bd (al BinOp.neq v5 v9) fun v11=>aq v11 (R (LV.bool false) st10) (bd (al BinOp.eql v5 (LV.int IntKind.i64 6)) fun v12=>aq v12 (bd (ldA
 st10 v0 1) fun v13=>bd (ldA st10 v2 1) fun v14=>LZ 49 [v13] st10 fun v15 st16=>ldA st16 v2 1=some v14∧LZ 49 [v14] st16 fun v17 st18=>LZ 121 [v15,v17] st18 fun v19
 st20=>aq v19 (bd (ldA st20 v0 1) fun v21=>bd (ldA st20 v2 1) fun v22=>LZ 101 [v21] st20 fun v23 st24=>ldA st24 v2 1=some v22∧LZ 101 [v22] st24 fun v25 st26=>LZ
 122 [v23,v25,LV.fn (Fn.func 56) [] []] st26 fun v27 st28=>R v27 st28) (R (LV.bool false) st20)) (bd (al BinOp.eql v5 (LV.int IntKind.i64 7)) fun v29=>aq v29 (bd (ldA st10 v0 1) fun v30=>bd (ldA st10 v2 1) fun
 v31=>LZ 49 [v30] st10 fun v32 st33=>ldA st33 v2 1=some v31∧LZ 49 [v31] st33 fun v34 st35=>LZ 121 [v32,v34] st35 fun v36 st37=>aq v36 (bd (ldA st37 v0 1) fun v38=>bd (ldA st37 v2 1) fun v39=>LZ 101 [v38] st37 fun v40 st41=>ldA st41 v2 1=some v39∧LZ 101 [v39] st41 fun v42 st43=>LZ 122 [v40,v42,LV.fn (Fn.func 56) [] []] st43 fun
 v44 st45=>R v44 st45) (R (LV.bool false) st37)) (bd (ldA st10 v0 1) fun v46=>bd (ldA st10 v2 1) fun v47=>LZ 48 [v46,v47] st10 fun v48 st49=>R v48 st49))))
theorem NA (a0 a1:LV) (R:LV.RT) (st:aa):cN Tryz.prog [.tmp 4] R [] [] 3000 [.code (bG Tryz.f56)] ([a0,a1]++List.replicate (Tryz.f56.ntmps-2) aQ) st=w56 a0 a1 R st:=by kernel_rfl
theorem c56 (a0 a1:LV) {R:LV.RT} {st:aa} (h:w56 a0 a1 R st):LZ 56 [a0,a1] st R:=
 aw.of aJ Tryz.func56 (show Tryz.f56.body=some (bG Tryz.f56) by kernel_rfl) (by kernel_rfl) (show Tryz.f56.results.toList=[.tmp 4] by kernel_rfl) (bq aJ 3000 (Eq.mpr (NA a0 a1 R st) h))
def NB (a0 a1:LV) (R:LV.RT) (st:aa):Prop:=
 bd (bB a0) fun v0=>bd (bB a1) fun v1=>bd (al BinOp.neq v0 v1) fun v2=>aq v2 (R (LV.bool false) st) (bd (bB a0) fun v3=>wG a0 a1 v3 (LV.int IntKind.i64 0) R st)
theorem Kh (a0 a1:LV) (R:LV.RT) (st:aa):cN Tryz.prog [.tmp 4] R [2,3,4,5,6,7,8,9,10,11,14,15,16,17,18,19,20,21,22,23,24,25] [] 3000 [.code (bG Tryz.f121)] ([a0,a1]++List.replicate (Tryz.f121.ntmps-2) aQ) st=NB a0 a1 R st:=by kernel_rfl
theorem QO (a0 a1:LV) {R:LV.RT} {st:aa} (h:NB a0 a1 R st):LZ 121 [a0,a1] st R:=
 aw.of aJ Tryz.func121 (show Tryz.f121.body=some (bG Tryz.f121) by kernel_rfl) (by kernel_rfl) (show Tryz.f121.results.toList=[.tmp 4] by kernel_rfl) (bq aJ 3000 (Eq.mpr (Kh a0 a1 R st) h))
def wM (x0 x1 x12 x13:LV) (R:LV.RT) (st:aa):Prop:=
 bd (al BinOp.lss x13 x12) fun v0=>aq v0 (bd (bn 1 x0 x13) fun v1=>bd (ld1 st v1) fun v2=>bd (bn 1 x1 x13) fun v3=>bd (ld1 st v3) fun v4=>bd (ck BinOp.neq v2 v4) fun v5=>aq v5 (R (LV.bool false)
 st) (bd (al BinOp.add x13 (LV.int IntKind.i64 1)) fun v6=>wG x0 x1 x12 v6 R st)) (R (LV.bool true) st)
theorem FG (x0 x1 x12 x13:LV) (R:LV.RT) (st:aa):cN Tryz.prog [.tmp 4] R [2,3,4,5,6,7,8,9,10,11,14,15,16,17,18,19,20,21,22,23,24,25] [] 3000 (dK (cR Tryz.f121 1)) (x0::x1::(LV.jk 10 (x12::x13::(LV.jk 12 [])))) st=wM x0 x1 x12 x13 R st:=by kernel_rfl
theorem G5 (x0 x1 x12 x13:LV) {R:LV.RT} {st:aa} (h:wM x0 x1 x12 x13 R st):wG x0 x1 x12 x13 R st:=
 LT.at aJ 3000 (Eq.mpr (FG x0 x1 x12 x13 R st) h)
def NC (a0 a1 a2:LV) (R:LV.RT) (st:aa):Prop:=
 bd (bB a0) fun v0=>bd (bB a1) fun v1=>bd (al BinOp.neq v0 v1) fun v2=>aq v2 (R (LV.bool false) st) (bd (bB a0) fun v3=>wH a1 a2 a0 v3 (LV.int IntKind.i64 0) R st)
theorem Ki (a0 a1 a2:LV) (R:LV.RT) (st:aa):cN Tryz.prog [.tmp 6] R [0,3,4,5,6,7,8,9,10,11,12,13,14,18,19,20,21,22,23,24,25,26,27,28,29,30,31] [] 3000 [.code (bG Tryz.f122)] ([a0,a1,a2]++List.replicate (Tryz.f122.ntmps-3) aQ) st=NC a0 a1 a2 R st:=by kernel_rfl
theorem QP (a0 a1 a2:LV) {R:LV.RT} {st:aa} (h:NC a0 a1 a2 R st):LZ 122 [a0,a1,a2] st R:=
 aw.of aJ Tryz.func122 (show Tryz.f122.body=some (bG Tryz.f122) by kernel_rfl) (by kernel_rfl) (show Tryz.f122.results.toList=[.tmp 6] by kernel_rfl) (bq aJ 3000 (Eq.mpr (Ki a0 a1 a2 R st) h))
def wN (x1 x2 x15 x16 x17:LV) (R:LV.RT) (st:aa):Prop:=
 bd (al BinOp.lss x17 x16) fun v0=>aq v0 (bd (bn 1 x15 x17) fun v1=>bd (ldA st v1 1) fun v2=>nw st [LV.nili] fun v3 st4=>bd2 (lmk (stV st4 1 v3 v2)) fun _v5 st6=>bd (bn 1 x1 x17) fun v7=>bd (ldA st6 v7
 1) fun v8=>nw st6 [LV.nili] fun v9 st10=>bd2 (lmk (stV st10 1 v9 v8)) fun _v11 st12=>bd (ldA st12 v3 1) fun v13=>bd (ldA st12 v9 1) fun v14=>bd2 (qe x2 [v13,v14]) fun f15 xs16=>LZ f15 xs16
 st12 fun v17 st18=>bd (lun UnOp.not v17) fun v19=>aq v19 (R (LV.bool false) st18) (bd (al BinOp.add x17 (LV.int IntKind.i64 1)) fun v20=>wH x1 x2 x15 x16 v20 R st18)) (R (LV.bool true) st)
theorem FH (x1 x2 x15 x16 x17:LV) (R:LV.RT) (st:aa):cN Tryz.prog [.tmp 6] R [0,3,4,5,6,7,8,9,10,11,12,13,14,18,19,20,21,22,23,24,25,26,27,28,29,30,31] [] 3000 (dK (cR Tryz.f122 1)) (.aY::x1::x2::(LV.jk 12 (x15::x16::x17::(LV.jk 14 [])))) st=wN x1 x2 x15 x16 x17 R st:=by kernel_rfl
theorem G6 (x1 x2 x15 x16 x17:LV) {R:LV.RT} {st:aa} (h:wN x1 x2 x15 x16 x17 R st):wH x1 x2 x15 x16 x17 R st:=
 LT.at aJ 3000 (Eq.mpr (FH x1 x2 x15 x16 x17 R st) h)
def w98 (a0:LV) (R:LV.RT) (st:aa):Prop:=
 bd2 (cu st a0) fun v0 st1=>bd (ag 0 v0) fun v2=>bd (ld1 st1 v2) fun v3=>bd (asC 3 (some (LV.int IntKind.i64 0)) v3 true) fun v4=>bd (ai v4 0) fun v5=>bd (ai v4 1) fun v6=>R (LV.tup [v5,v6])
 st1
theorem ND (a0:LV) (R:LV.RT) (st:aa):cN Tryz.prog [.tmp 2,.tmp 3] R [] [] 3000 [.code (bG Tryz.f98)] ([a0]++List.replicate (Tryz.f98.ntmps-1) aQ) st=w98 a0 R st:=by kernel_rfl
theorem c98 (a0:LV) {R:LV.RT} {st:aa} (h:w98 a0 R st):LZ 98 [a0] st R:=
 aw.of aJ Tryz.func98 (show Tryz.f98.body=some (bG Tryz.f98) by kernel_rfl) (by kernel_rfl) (show Tryz.f98.results.toList=[.tmp 2,.tmp 3] by kernel_rfl) (bq aJ 3000 (Eq.mpr (ND a0 R st) h))
end Go.Proofs.YtknegckgmklnhaaGreatDoor
