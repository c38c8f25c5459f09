/- Parts of the proof. -/
import Derived.Test.YtknegckgmklnhaaGreatDoorProg
import Derived.Test.YtknegckgmklnhaaGreatDoorCp42
namespace Go.Proofs.YtknegckgmklnhaaGreatDoor
open Go Go.CP
abbrev i64 (n:Int):LV:=.int .i64 n
abbrev LZ (f:FuncId) (xs:List LV) (st:aa) (R:LV.RT):Prop:=ag Tryz.prog f xs st R
set_option maxRecDepth 100000
theorem aq:Tryz.prog.follows .mixedOrders=true:=by kernel_rfl
def uy (x1 x3 x4 x5:LV) (R:LV.RT) (st:aa):Prop:=LT Tryz.prog [.tmp 2] (ca Tryz.f24 1) R (.aJ::x1::.aJ::x3::x4::x5::(LV.jk 68 [])) st
def rA (x1 x3 x4 x5:LV) (R:LV.RT) (st:aa):Prop:=LT Tryz.prog [.tmp 2] (ca Tryz.f24 4) R (.aJ::x1::.aJ::x3::x4::x5::(LV.jk 68 [])) st
def rB (x1 x2 x5 x6:LV) (R:LV.RT) (st:aa):Prop:=LT Tryz.prog [.cell 2 57] (ca Tryz.f29 2) R (.aJ::x1::x2::.aJ::.aJ::x5::x6::(LV.jk 66 [])) st
def uz (x1 x4 x6 x18 x19 x20:LV) (R:LV.RT) (st:aa):Prop:=LT Tryz.prog [.cell 4 57,.tmp 5] (ca Tryz.f72 1) R (.aJ::x1::.aJ::.aJ::x4::.aJ::x6::(LV.jk 11 (x18::x19::x20::(LV.jk 22 [])))) st
def uA (x1 x3 x4:LV) (R:LV.RT) (st:aa):Prop:=LT Tryz.prog [.tmp 2] (ca Tryz.f85 1) R (.aJ::x1::.aJ::x3::x4::(LV.jk 16 [])) st
def uB (x1 x3 x4:LV) (R:LV.RT) (st:aa):Prop:=LT Tryz.prog [.tmp 2] (ca Tryz.f86 1) R (.aJ::x1::.aJ::x3::x4::(LV.jk 17 [])) st
def nD (x5 x6 x26 x27 x28:LV) (R:LV.RT) (st:aa):Prop:=LT Tryz.prog [.tmp 2] (ca Tryz.f101 1) R (LV.jk 5 (x5::x6::(LV.jk 19 (x26::x27::x28::(LV.jk 11 []))))) st
def pL (x1 x2 x15 x16 x17:LV) (R:LV.RT) (st:aa):Prop:=LT Tryz.prog [.tmp 6] (ca Tryz.f113 1) R (.aJ::x1::x2::(LV.jk 12 (x15::x16::x17::(LV.jk 14 [])))) st
def pM (x1 x2 x17:LV) (R:LV.RT) (st:aa):Prop:=LT Tryz.prog [.tmp 6] (ca Tryz.f114 1) R (.aJ::x1::x2::(LV.jk 14 (x17::(LV.jk 20 [])))) st
def w24 (a0:LV) (R:LV.RT) (st:aa):Prop:=
 bd2 (cn st a0) fun v0 st1=>bd (al 5 v0) fun v2=>bd (ld1 st1 v2) fun v3=>bd (bj v3) fun v4=>bd (aI BinOp.sub v4 (LV.int IntKind.i64 70)) fun v5=>bd (fG [v5,LV.int IntKind.i64 0]) fun v6=>bd
 (al 6 v0) fun v7=>bd (ld1 st1 v7) fun v8=>bd (bj v8) fun v9=>bd (aI BinOp.sub v9 (LV.int IntKind.i64 70)) fun v10=>bd (fG [v10,LV.int IntKind.i64 0]) fun v11=>bd (aI BinOp.add v6 v11) fun v12=>bd (al 4 v0) fun v13=>bd (ld1 st1 v13) fun v14=>bd (mM v14) fun v15=>bd (aI BinOp.sub v15 (LV.int IntKind.i64 300)) fun v16=>bd (fG [v16,LV.int IntKind.i64 0]) fun v17=>bd (aI BinOp.add v12 v17)
 fun v18=>bd (ldA st1 v0 7) fun v19=>bd (ldA st1 v0 7) fun v20=>LZ 85 [v19] st1 fun v21 st22=>ldA st22 v0 7=some v20∧ld1 st22 v13=some v14∧ld1 st22 v7=some v8∧ld1 st22 v2=some v3∧bd
 (aI BinOp.sub v21 (LV.int IntKind.i64 200)) fun v23=>bd (fG [v23,LV.int IntKind.i64 0]) fun v24=>bd (aI BinOp.add v18 v24) fun v25=>LZ 86 [v20] st22 fun v26 st27=>ld1 st27 v13=some v14∧
 ld1 st27 v7=some v8∧ld1 st27 v2=some v3∧bd (aI BinOp.sub v26 (LV.int IntKind.i64 12)) fun v28=>bd (fG [v28,LV.int IntKind.i64 0]) fun v29=>bd (aI BinOp.add v25 v29) fun v30=>uy v0 v30 (LV.int
 IntKind.i64 0) (LV.tup []) R st27
theorem Ag (a0:LV) (R:LV.RT) (st:aa):bW Tryz.prog [.tmp 2] R [0,2,6,7,8,9,10,11,12,13,14,15,16,17,18,19,20,21,22,23,24,25,26,27,28,29,30,31,32,33,34,35,36,37,38,39,40,41,42,43,44,45,46,47,48,49,50,51,52,53,54,55,56,57,58,59,60,61,62,63,64,65,66,67,68,69,70,71,72,73] [] 3000 [.code (aM Tryz.f24)] ([a0]++List.replicate (Tryz.f24.ntmps-1) ak) st=w24 a0 R st:=by kernel_rfl
theorem c24 (a0:LV) {R:LV.RT} {st:aa} (h:w24 a0 R st):LZ 24 [a0] st R:=
 ag.of aq Tryz.func24 (show Tryz.f24.body=some (aM Tryz.f24) by kernel_rfl) (by kernel_rfl) (show Tryz.f24.results.toList=[.tmp 2] by kernel_rfl) (az aq 3000 (Eq.mpr (Ag a0 R st) h))
def rC (x1 x3 x4 x5:LV) (R:LV.RT) (st:aa):Prop:=
 bd (al 6 x1) fun v0=>bd (ld1 st v0) fun v1=>bd (bj v1) fun v2=>bd (aI BinOp.lss x4 v2) fun v3=>aG v3 (bd (aI BinOp.lss x4 (LV.int IntKind.i64 80)) fun v4=>aG v4 (bd (al 6 x1) fun v5=>bd (ld1
 st v5) fun v6=>bd (bo 1 v6 x4) fun v7=>bd (ld1 st v7) fun v8=>bd (mM v8) fun v9=>bd (aI BinOp.sub v9 (LV.int IntKind.i64 300)) fun v10=>bd (fG [v10,LV.int IntKind.i64 0]) fun v11=>bd (aI
 BinOp.add x3 v11) fun v12=>bd (aI BinOp.add x4 (LV.int IntKind.i64 1)) fun v13=>uy x1 v12 v13 x5 R st) (rA x1 x3 x4 (LV.int IntKind.i64 0) R st)) (rA x1 x3 x4 (LV.int IntKind.i64 0) R st)
theorem wJ (x1 x3 x4 x5:LV) (R:LV.RT) (st:aa):bW Tryz.prog [.tmp 2] R [0,2,6,7,8,9,10,11,12,13,14,15,16,17,18,19,20,21,22,23,24,25,26,27,28,29,30,31,32,33,34,35,36,37,38,39,40,41,42,43,44,45,46,47,48,49,50,51,52,53,54,55,56,57,58,59,60,61,62,63,64,65,66,67,68,69,70,71,72,73] [] 3000 (cF (ca Tryz.f24 1)) (.aJ::x1::.aJ::x3::x4::x5::(LV.jk 68 [])) st=rC x1 x3 x4 x5 R st:=by kernel_rfl
theorem wK (x1 x3 x4 x5:LV) {R:LV.RT} {st:aa} (h:rC x1 x3 x4 x5 R st):uy x1 x3 x4 x5 R st:=
 LT.at aq 3000 (Eq.mpr (wJ x1 x3 x4 x5 R st) h)
def rD (x1 x3 x4 x5:LV) (R:LV.RT) (st:aa):Prop:=
 bd (al 5 x1) fun v0=>bd (ld1 st v0) fun v1=>bd (bj v1) fun v2=>bd (aI BinOp.lss x5 v2) fun v3=>aG v3 (bd (aI BinOp.eql x3 (LV.int IntKind.i64 0)) fun v4=>aG v4 (bd (al 5 x1) fun v5=>bd (ld1
 st v5) fun v6=>bd (bo 7 v6 x5) fun v7=>bd (ldA st v7 7) fun v8=>LZ 24 [v8] st fun v9 st10=>bd (aI BinOp.add x3 v9) fun v11=>bd (aI BinOp.add x5 (LV.int IntKind.i64 1)) fun v12=>rA x1
 v11 x4 v12 R st10) (R x3 st)) (R x3 st)
theorem wL (x1 x3 x4 x5:LV) (R:LV.RT) (st:aa):bW Tryz.prog [.tmp 2] R [0,2,6,7,8,9,10,11,12,13,14,15,16,17,18,19,20,21,22,23,24,25,26,27,28,29,30,31,32,33,34,35,36,37,38,39,40,41,42,43,44,45,46,47,48,49,50,51,52,53,54,55,56,57,58,59,60,61,62,63,64,65,66,67,68,69,70,71,72,73] [] 3000 (cF (ca Tryz.f24 4)) (.aJ::x1::.aJ::x3::x4::x5::(LV.jk 68 [])) st=rD x1 x3 x4 x5 R st:=by kernel_rfl
theorem wM (x1 x3 x4 x5:LV) {R:LV.RT} {st:aa} (h:rD x1 x3 x4 x5 R st):rA x1 x3 x4 x5 R st:=
 LT.at aq 3000 (Eq.mpr (wL x1 x3 x4 x5 R st) h)
def w85 (a0:LV) (R:LV.RT) (st:aa):Prop:=
 bd2 (cn st a0) fun v0 st1=>uA v0 (LV.int IntKind.i64 1) (LV.int IntKind.i64 0) R st1
theorem Ah (a0:LV) (R:LV.RT) (st:aa):bW Tryz.prog [.tmp 2] R [0,2,5,6,7,8,9,10,11,12,13,14,15,16,17,18,19,20] [] 3000 [.code (aM Tryz.f85)] ([a0]++List.replicate (Tryz.f85.ntmps-1) ak) st=w85 a0 R st:=by kernel_rfl
theorem c85 (a0:LV) {R:LV.RT} {st:aa} (h:w85 a0 R st):LZ 85 [a0] st R:=
 ag.of aq Tryz.func85 (show Tryz.f85.body=some (aM Tryz.f85) by kernel_rfl) (by kernel_rfl) (show Tryz.f85.results.toList=[.tmp 2] by kernel_rfl) (az aq 3000 (Eq.mpr (Ah a0 R st) h))
def uC (x1 x3 x4:LV) (R:LV.RT) (st:aa):Prop:=
 bd (al 5 x1) fun v0=>bd (ld1 st v0) fun v1=>bd (bj v1) fun v2=>bd (aI BinOp.lss x4 v2) fun v3=>aG v3 (bd (al 5 x1) fun v4=>bd (ld1 st v4) fun v5=>bd (bo 7 v5 x4) fun v6=>bd (ldA st v6 7) fun
 v7=>LZ 85 [v7] st fun v8 st9=>bd (aI BinOp.add x3 v8) fun v10=>bd (aI BinOp.add x4 (LV.int IntKind.i64 1)) fun v11=>uA x1 v10 v11 R st9) (R x3 st)
theorem wN (x1 x3 x4:LV) (R:LV.RT) (st:aa):bW Tryz.prog [.tmp 2] R [0,2,5,6,7,8,9,10,11,12,13,14,15,16,17,18,19,20] [] 3000 (cF (ca Tryz.f85 1)) (.aJ::x1::.aJ::x3::x4::(LV.jk 16 [])) st=uC x1 x3 x4 R st:=by kernel_rfl
theorem zp (x1 x3 x4:LV) {R:LV.RT} {st:aa} (h:uC x1 x3 x4 R st):uA x1 x3 x4 R st:=
 LT.at aq 3000 (Eq.mpr (wN x1 x3 x4 R st) h)
def w86 (a0:LV) (R:LV.RT) (st:aa):Prop:=
 bd2 (cn st a0) fun v0 st1=>uB v0 (LV.int IntKind.i64 0) (LV.int IntKind.i64 0) R st1
theorem Ai (a0:LV) (R:LV.RT) (st:aa):bW Tryz.prog [.tmp 2] R [0,2,5,6,7,8,9,10,11,12,13,14,15,16,17,18,19,20,21] [] 3000 [.code (aM Tryz.f86)] ([a0]++List.replicate (Tryz.f86.ntmps-1) ak) st=w86 a0 R st:=by kernel_rfl
theorem c86 (a0:LV) {R:LV.RT} {st:aa} (h:w86 a0 R st):LZ 86 [a0] st R:=
 ag.of aq Tryz.func86 (show Tryz.f86.body=some (aM Tryz.f86) by kernel_rfl) (by kernel_rfl) (show Tryz.f86.results.toList=[.tmp 2] by kernel_rfl) (az aq 3000 (Eq.mpr (Ai a0 R st) h))
def uD (x1 x3 x4:LV) (R:LV.RT) (st:aa):Prop:=
 bd (al 5 x1) fun v0=>bd (ld1 st v0) fun v1=>bd (bj v1) fun v2=>bd (aI BinOp.lss x4 v2) fun v3=>aG v3 (bd (al 5 x1) fun v4=>bd (ld1 st v4) fun v5=>bd (bo 7 v5 x4) fun v6=>bd (ldA st v6 7) fun
 v7=>LZ 86 [v7] st fun v8 st9=>bd (fG [x3,v8]) fun v10=>bd (aI BinOp.add x4 (LV.int IntKind.i64 1)) fun v11=>uB x1 v10 v11 R st9) (bd (aI BinOp.add x3 (LV.int IntKind.i64 1)) fun v12=>R
 v12 st)
theorem wO (x1 x3 x4:LV) (R:LV.RT) (st:aa):bW Tryz.prog [.tmp 2] R [0,2,5,6,7,8,9,10,11,12,13,14,15,16,17,18,19,20,21] [] 3000 (cF (ca Tryz.f86 1)) (.aJ::x1::.aJ::x3::x4::(LV.jk 17 [])) st=uD x1 x3 x4 R st:=by kernel_rfl
theorem zq (x1 x3 x4:LV) {R:LV.RT} {st:aa} (h:uD x1 x3 x4 R st):uB x1 x3 x4 R st:=
 LT.at aq 3000 (Eq.mpr (wO x1 x3 x4 R st) h)
def w29 (a0:LV) (R:LV.RT) (st:aa):Prop:=
 bd2 (cn st a0) fun v0 st1=>nw st1 [LV.nili] fun v2 st3=>bd (al 0 v0) fun v4=>bd (ld1 st3 v4) fun v5=>bd (aI BinOp.eql v5 (LV.int IntKind.i64 1)) fun v6=>aG v6 (LZ 69 [] st3 fun v7 st8=>bd2 (lmk (stV st8 1 v2 v7)) fun _v9 st10=>bd (ldA st10 v2 1) fun v11=>R v11 st10) (bd (aI BinOp.eql v5 (LV.int IntKind.i64 2)) fun v12=>aG v12 (bd (al 1 v0) fun v13=>bd (ld1 st3 v13) fun v14=>ag
 Tryz.prog 92 [v14] st3 fun v15 st16=>bd2 (lmk (stV st16 1 v2 v15)) fun _v17 st18=>bd (ldA st18 v2 1) fun v19=>R v19 st18) (bd (aI BinOp.eql v5 (LV.int IntKind.i64 3)) fun v20=>aG v20 (bd (al 2 v0) fun v21
 => bd (ld1 st3 v21) fun v22=>LZ 73 [v22] st3 fun v23 st24=>bd2 (lmk (stV st24 1 v2 v23)) fun _v25 st26=>bd (ldA st26 v2 1) fun v27=>R v27 st26) (bd (aI BinOp.eql v5 (LV.int IntKind.i64 4)) fun v28
 => aG v28 (bd (al 2 v0) fun v29=>bd (ld1 st3 v29) fun v30=>bd (al 3 v0) fun v31=>bd (ld1 st3 v31) fun v32=>LZ 93 [v30,v32] st3 fun v33 st34=>bd (af v33 0) fun v35=>bd (af
 v33 1) fun _v36=>nw st34 [LV.nili] fun v37 st38=>bd2 (lmk (stV st38 1 v37 v35)) fun _v39 st40=>bd (ldA st40 v37 1) fun v41=>bd2 (lmk (stV st40 1 v2 v41)) fun _v42 st43=>bd (ldA st43 v2 1) fun v44=>R v44 st43)
 (bd (aI BinOp.eql v5 (LV.int IntKind.i64 5)) fun v45=>aG v45 (bd (al 4 v0) fun v46=>bd (ld1 st3 v46) fun v47=>LZ 91 [v47] st3 fun v48 st49=>bd2 (lmk (stV st49 1 v2 v48)) fun _v50 st51=>bd
 (ldA st51 v2 1) fun v52=>R v52 st51) (bd (aI BinOp.eql v5 (LV.int IntKind.i64 6)) fun v53=>aG v53 (aG v53 (rB v0 v2 LV.nils (LV.int IntKind.i64 0) R st3) (LZ 66 [] st3 fun v54 st55=>bd2 (lmk
 (stV st55 1 v2 v54)) fun _v56 st57=>bd (ldA st57 v2 1) fun v58=>R v58 st57)) (bd (aI BinOp.eql v5 (LV.int IntKind.i64 7)) fun v59=>aG v59 (rB v0 v2 LV.nils (LV.int IntKind.i64 0) R st3) (LZ 66
 [] st3 fun v60 st61=>bd2 (lmk (stV st61 1 v2 v60)) fun _v62 st63=>bd (ldA st63 v2 1) fun v64=>R v64 st63)))))))
theorem Aj (a0:LV) (R:LV.RT) (st:aa):bW Tryz.prog [.cell 2 57] R [0,3,4,7,8,9,10,11,12,13,14,15,16,17,18,19,20,21,22,23,24,25,26,27,28,29,30,31,32,33,34,35,36,37,38,39,40,41,42,43,44,45,46,47,48,49,50,51,52,53,54,55,56,57,58,59,60,61,62,63,64,65,66,67,68,69,70,71,72] [] 3000 [.code (aM Tryz.f29)] ([a0]++List.replicate (Tryz.f29.ntmps-1) ak) st=w29 a0 R st:=by kernel_rfl
theorem c29 (a0:LV) {R:LV.RT} {st:aa} (h:w29 a0 R st):LZ 29 [a0] st R:=
 ag.of aq Tryz.func29 (show Tryz.f29.body=some (aM Tryz.f29) by kernel_rfl) (by kernel_rfl) (show Tryz.f29.results.toList=[.cell 2 57] by kernel_rfl) (az aq 3000 (Eq.mpr (Aj a0 R st) h))
def uE (x1 x2 x5 x6:LV) (R:LV.RT) (st:aa):Prop:=
 bd (al 5 x1) fun v0=>bd (ld1 st v0) fun v1=>bd (bj v1) fun v2=>bd (aI BinOp.lss x6 v2) fun v3=>aG v3 (bd (al 5 x1) fun v4=>bd (ld1 st v4) fun v5=>bd (bo 7 v5 x6) fun v6=>bd (ldA st v6 7) fun
 v7=>LZ 29 [v7] st fun v8 st9=>bd2 (cK st9 1 (aN (fun i=>some (i*1,1)) (List.replicate 1 [LV.nili]).flatten [(0,v8)])) fun v10 st11=>bd2 (aY st11 1 16 Md.rw x5 v10) fun v12 st13=>bd
 (aI BinOp.add x6 (LV.int IntKind.i64 1)) fun v14=>rB x1 x2 v12 v14 R st13) (bd (al 0 x1) fun v15=>bd (ld1 st v15) fun v16=>bd (aI BinOp.eql v16 (LV.int IntKind.i64 6)) fun v17=>aG v17 (ag
 Tryz.prog 94 [x5] st fun v18 st19=>bd2 (lmk (stV st19 1 x2 v18)) fun _v20 st21=>bd (ldA st21 x2 1) fun v22=>R v22 st21) (bd (al 6 x1) fun v23=>bd (ld1 st v23) fun v24=>LZ 72 [v24,x5] st fun
 v25 st26=>bd (af v25 0) fun v27=>bd (af v25 1) fun _v28=>nw st26 [LV.nili] fun v29 st30=>bd2 (lmk (stV st30 1 v29 v27)) fun _v31 st32=>bd (ldA st32 v29 1) fun v33=>bd2 (lmk (stV st32 1 x2 v33))
 fun _v34 st35=>bd (ldA st35 x2 1) fun v36=>R v36 st35))
theorem wP (x1 x2 x5 x6:LV) (R:LV.RT) (st:aa):bW Tryz.prog [.cell 2 57] R [0,3,4,7,8,9,10,11,12,13,14,15,16,17,18,19,20,21,22,23,24,25,26,27,28,29,30,31,32,33,34,35,36,37,38,39,40,41,42,43,44,45,46,47,48,49,50,51,52,53,54,55,56,57,58,59,60,61,62,63,64,65,66,67,68,69,70,71,72] [] 3000 (cF (ca Tryz.f29 2)) (.aJ::x1::x2::.aJ::.aJ::x5::x6::(LV.jk 66 [])) st=uE x1 x2 x5 x6 R st:=by kernel_rfl
theorem zr (x1 x2 x5 x6:LV) {R:LV.RT} {st:aa} (h:uE x1 x2 x5 x6 R st):rB x1 x2 x5 x6 R st:=
 LT.at aq 3000 (Eq.mpr (wP x1 x2 x5 x6 R st) h)
def w66 (R:LV.RT) (st:aa):Prop:=
 nw st [LV.nili] fun v0 st1=>bd (bK (aN (aR [(0,1)]) [LV.nili] [])) fun v2=>bd2 (lmk (stV st1 1 v0 v2)) fun _v3 st4=>bd (ldA st4 v0 1) fun v5=>R v5 st4
theorem Ak (R:LV.RT) (st:aa):bW Tryz.prog [.cell 0 57] R [] [] 3000 [.code (aM Tryz.f66)] ([]++List.replicate (Tryz.f66.ntmps-0) ak) st=w66  R st:=by kernel_rfl
theorem c66 {R:LV.RT} {st:aa} (h:w66  R st):LZ 66 [] st R:=
 ag.of aq Tryz.func66 (show Tryz.f66.body=some (aM Tryz.f66) by kernel_rfl) (by kernel_rfl) (show Tryz.f66.results.toList=[.cell 0 57] by kernel_rfl) (az aq 3000 (Eq.mpr (Ak  R st) h))
def w69 (R:LV.RT) (st:aa):Prop:=
 nw st [LV.nili] fun v0 st1=>bd (bK (aN (aR []) [] [])) fun v2=>bd (bK (aN (aR [(0,1)]) [LV.nili] [(0,LV.iface 169 v2)])) fun v3=>bd2 (lmk (stV st1 1 v0 v3)) fun _v4 st5=>bd (ldA st5 v0 1)
 fun v6=>R v6 st5
theorem Al (R:LV.RT) (st:aa):bW Tryz.prog [.cell 0 57] R [] [] 3000 [.code (aM Tryz.f69)] ([]++List.replicate (Tryz.f69.ntmps-0) ak) st=w69  R st:=by kernel_rfl
theorem c69 {R:LV.RT} {st:aa} (h:w69  R st):LZ 69 [] st R:=
 ag.of aq Tryz.func69 (show Tryz.f69.body=some (aM Tryz.f69) by kernel_rfl) (by kernel_rfl) (show Tryz.f69.results.toList=[.cell 0 57] by kernel_rfl) (az aq 3000 (Eq.mpr (Al  R st) h))
def w92 (a0:LV) (R:LV.RT) (st:aa):Prop:=
 nw st [LV.nili] fun v0 st1=>bd (bK (aN (aR [(0,1)]) [LV.nili] [(0,LV.iface 4 a0)])) fun v2=>bd2 (lmk (stV st1 1 v0 v2)) fun _v3 st4=>bd (ldA st4 v0 1) fun v5=>R v5 st4
theorem Am (a0:LV) (R:LV.RT) (st:aa):bW Tryz.prog [.cell 2 57] R [] [] 3000 [.code (aM Tryz.f92)] ([a0]++List.replicate (Tryz.f92.ntmps-1) ak) st=w92 a0 R st:=by kernel_rfl
theorem c92 (a0:LV) {R:LV.RT} {st:aa} (h:w92 a0 R st):LZ 92 [a0] st R:=
 ag.of aq Tryz.func92 (show Tryz.f92.body=some (aM Tryz.f92) by kernel_rfl) (by kernel_rfl) (show Tryz.f92.results.toList=[.cell 2 57] by kernel_rfl) (az aq 3000 (Eq.mpr (Am a0 R st) h))
def w73 (a0:LV) (R:LV.RT) (st:aa):Prop:=
 nw st [LV.nili] fun v0 st1=>bd (bK (aN (aR [(0,1)]) [LV.nili] [(0,LV.iface 3 a0)])) fun v2=>bd2 (lmk (stV st1 1 v0 v2)) fun _v3 st4=>bd (ldA st4 v0 1) fun v5=>R v5 st4
theorem An (a0:LV) (R:LV.RT) (st:aa):bW Tryz.prog [.cell 2 57] R [] [] 3000 [.code (aM Tryz.f73)] ([a0]++List.replicate (Tryz.f73.ntmps-1) ak) st=w73 a0 R st:=by kernel_rfl
theorem c73 (a0:LV) {R:LV.RT} {st:aa} (h:w73 a0 R st):LZ 73 [a0] st R:=
 ag.of aq Tryz.func73 (show Tryz.f73.body=some (aM Tryz.f73) by kernel_rfl) (by kernel_rfl) (show Tryz.f73.results.toList=[.cell 2 57] by kernel_rfl) (az aq 3000 (Eq.mpr (An a0 R st) h))
def w93 (a0 a1:LV) (R:LV.RT) (st:aa):Prop:=
 nw st [LV.nili] fun v0 st1=>LZ 156 [a0] st1 fun v2 st3=>bd (lun UnOp.not v2) fun v4=>aG v4 (bd (bK (aN (aR [(0,1)]) [LV.nili] [])) fun v5=>bd2 (lmk (stV st3 1 v0 v5)) fun _v6 st7=>bd
 (ldA st7 v0 1) fun v8=>R (LV.tup [v8,LV.int IntKind.i64 2]) st7) (LZ 156 [a1] st3 fun v9 st10=>bd (lun UnOp.not v9) fun v11=>aG v11 (bd (bK (aN (aR [(0,1)]) [LV.nili] [])) fun v12=>bd2 (lmk (stV st10 1 v0 v12)) fun _v13 st14=>bd (ldA st14 v0 1) fun v15=>R (LV.tup [v15,LV.int IntKind.i64 2]) st14) (bd (vc FloatKind.f64 a0) fun v16=>bd (vc FloatKind.f64 a1) fun v17=>bd (ua v16 v17)
 fun v18=>bd (bK (aN (aR [(0,1)]) [LV.nili] [(0,LV.iface 170 v18)])) fun v19=>bd2 (lmk (stV st10 1 v0 v19)) fun _v20 st21=>bd (ldA st21 v0 1) fun v22=>R (LV.tup [v22,LV.int IntKind.i64 0]) st21))
theorem Ao (a0 a1:LV) (R:LV.RT) (st:aa):bW Tryz.prog [.cell 4 57,.tmp 5] R [] [] 3000 [.code (aM Tryz.f93)] ([a0,a1]++List.replicate (Tryz.f93.ntmps-2) ak) st=w93 a0 a1 R st:=by kernel_rfl
theorem c93 (a0 a1:LV) {R:LV.RT} {st:aa} (h:w93 a0 a1 R st):LZ 93 [a0,a1] st R:=
 ag.of aq Tryz.func93 (show Tryz.f93.body=some (aM Tryz.f93) by kernel_rfl) (by kernel_rfl) (show Tryz.f93.results.toList=[.cell 4 57,.tmp 5] by kernel_rfl) (az aq 3000 (Eq.mpr (Ao a0 a1 R st) h))
def w91 (a0:LV) (R:LV.RT) (st:aa):Prop:=
 nw st [LV.nili] fun v0 st1=>bd (bK (aN (aR [(0,1)]) [LV.nili] [(0,LV.iface 9 a0)])) fun v2=>bd2 (lmk (stV st1 1 v0 v2)) fun _v3 st4=>bd (ldA st4 v0 1) fun v5=>R v5 st4
theorem Ap (a0:LV) (R:LV.RT) (st:aa):bW Tryz.prog [.cell 2 57] R [] [] 3000 [.code (aM Tryz.f91)] ([a0]++List.replicate (Tryz.f91.ntmps-1) ak) st=w91 a0 R st:=by kernel_rfl
theorem c91 (a0:LV) {R:LV.RT} {st:aa} (h:w91 a0 R st):LZ 91 [a0] st R:=
 ag.of aq Tryz.func91 (show Tryz.f91.body=some (aM Tryz.f91) by kernel_rfl) (by kernel_rfl) (show Tryz.f91.results.toList=[.cell 2 57] by kernel_rfl) (az aq 3000 (Eq.mpr (Ap a0 R st) h))
def w94 (a0:LV) (R:LV.RT) (st:aa):Prop:=
 nw st [LV.nili] fun v0 st1=>LZ 157 [a0] st1 fun v2 st3=>bd (bK (aN (aR [(0,1)]) [LV.nili] [(0,LV.iface 171 v2)])) fun v4=>bd2 (lmk (stV st3 1 v0 v4)) fun _v5 st6=>bd (ldA st6 v0 1) fun
 v7=>R v7 st6
theorem Aq (a0:LV) (R:LV.RT) (st:aa):bW Tryz.prog [.cell 2 57] R [] [] 3000 [.code (aM Tryz.f94)] ([a0]++List.replicate (Tryz.f94.ntmps-1) ak) st=w94 a0 R st:=by kernel_rfl
theorem c94 (a0:LV) {R:LV.RT} {st:aa} (h:w94 a0 R st):LZ 94 [a0] st R:=
 ag.of aq Tryz.func94 (show Tryz.f94.body=some (aM Tryz.f94) by kernel_rfl) (by kernel_rfl) (show Tryz.f94.results.toList=[.cell 2 57] by kernel_rfl) (az aq 3000 (Eq.mpr (Aq a0 R st) h))
def w72 (a0 a1:LV) (R:LV.RT) (st:aa):Prop:=
 nw st [LV.nili] fun v0 st1=>bd (bj a0) fun v2=>bd (bj a1) fun v3=>bd (aI BinOp.neq v2 v3) fun v4=>aG v4 (bd (bK (aN (aR [(0,1)]) [LV.nili] [])) fun v5=>bd2 (lmk (stV st1 1 v0 v5)) fun _v6
 st7=>bd (ldA st7 v0 1) fun v8=>R (LV.tup [v8,LV.int IntKind.i64 1]) st7) (zf st1 fun v9 st10=>bd (bj a0) fun v11=>uz a1 v0 v9 a0 v11 (LV.int IntKind.i64 0) R st10)
theorem Ar (a0 a1:LV) (R:LV.RT) (st:aa):bW Tryz.prog [.cell 4 57,.tmp 5] R [0,2,3,5,7,8,9,10,11,12,13,14,15,16,17,21,22,23,24,25,26,27,28,29,30,31,32,33,34,35,36,37,38,39,40,41,42] [] 3000 [.code (aM Tryz.f72)] ([a0,a1]++List.replicate (Tryz.f72.ntmps-2) ak) st=w72 a0 a1 R st:=by kernel_rfl
theorem c72 (a0 a1:LV) {R:LV.RT} {st:aa} (h:w72 a0 a1 R st):LZ 72 [a0,a1] st R:=
 ag.of aq Tryz.func72 (show Tryz.f72.body=some (aM Tryz.f72) by kernel_rfl) (by kernel_rfl) (show Tryz.f72.results.toList=[.cell 4 57,.tmp 5] by kernel_rfl) (az aq 3000 (Eq.mpr (Ar a0 a1 R st) h))
def uF (x1 x4 x6 x18 x19 x20:LV) (R:LV.RT) (st:aa):Prop:=
 bd (aI BinOp.lss x20 x19) fun v0=>aG v0 (bd (bo 1 x18 x20) fun v1=>bd (ld1 st v1) fun v2=>bd (kH st true (some (LV.agg [LV.nili])) x6 v2 true) fun v3=>bd (af v3 0) fun v4=>bd (af v3 1) fun
 v5=>nw st [LV.nili] fun v6 st7=>bd2 (lmk (stV st7 1 v6 v4)) fun _v8 st9=>aG v5 (bd (bK (aN (aR [(0,1)]) [LV.nili] [])) fun v10=>bd2 (lmk (stV st9 1 x4 v10)) fun _v11 st12=>bd (ldA st12 x4 1) fun
 v13=>R (LV.tup [v13,LV.int IntKind.i64 9]) st12) (bd (bo 1 x1 x20) fun v14=>bd (ldA st9 v14 1) fun v15=>bd2 (lmk (pg st9 true x6 v2 v15)) fun _v16 st17=>bd (aI BinOp.add x20 (LV.int IntKind.i64 1)) fun v18
 => uz x1 x4 x6 x18 x19 v18 R st17)) (bd (bK (aN (aR [(0,1)]) [LV.nili] [(0,LV.iface 173 x6)])) fun v19=>bd2 (lmk (stV st 1 x4 v19)) fun _v20 st21=>bd (ldA st21 x4 1) fun v22=>R (LV.tup [v22,LV.int
 IntKind.i64 0]) st21)
theorem wQ (x1 x4 x6 x18 x19 x20:LV) (R:LV.RT) (st:aa):bW Tryz.prog [.cell 4 57,.tmp 5] R [0,2,3,5,7,8,9,10,11,12,13,14,15,16,17,21,22,23,24,25,26,27,28,29,30,31,32,33,34,35,36,37,38,39,40,41,42] [] 3000 (cF (ca Tryz.f72 1)) (.aJ::x1::.aJ::.aJ::x4::.aJ::x6::(LV.jk 11 (x18::x19::x20::(LV.jk 22 [])))) st=uF x1 x4 x6 x18 x19 x20 R st:=by kernel_rfl
theorem zt (x1 x4 x6 x18 x19 x20:LV) {R:LV.RT} {st:aa} (h:uF x1 x4 x6 x18 x19 x20 R st):uz x1 x4 x6 x18 x19 x20 R st:=
 LT.at aq 3000 (Eq.mpr (wQ x1 x4 x6 x18 x19 x20 R st) h)
def Au (a0:LV) (R:LV.RT) (st:aa):Prop:=
 bd (aI BinOp.geq a0 (LV.int IntKind.i64 (-9007199254740992))) fun v0=>aG v0 (bd (aI BinOp.leq a0 (LV.int IntKind.i64 9007199254740992)) fun v1=>R v1 st) (R (LV.bool false) st)
theorem yz (a0:LV) (R:LV.RT) (st:aa):bW Tryz.prog [.tmp 2] R [] [] 3000 [.code (aM Tryz.f156)] ([a0]++List.replicate (Tryz.f156.ntmps-1) ak) st=Au a0 R st:=by kernel_rfl
theorem c156 (a0:LV) {R:LV.RT} {st:aa} (h:Au a0 R st):LZ 156 [a0] st R:=
 ag.of aq Tryz.func156 (show Tryz.f156.body=some (aM Tryz.f156) by kernel_rfl) (by kernel_rfl) (show Tryz.f156.results.toList=[.tmp 2] by kernel_rfl) (az aq 3000 (Eq.mpr (yz a0 R st) h))
def BX (a0:LV) (R:LV.RT) (st:aa):Prop:=
 bd (eqB BinOp.eql (sr a0 LV.nils)) fun v0=>aG v0 (R LV.nils st) (bd2 (cK st 0 (aN (fun i=>some (i*1,1)) (List.replicate 0 [LV.nili]).flatten [])) fun v1 st2=>bd2 (aY st2 1 16 Md.rw v1 a0) fun v3
 st4=>R v3 st4)
theorem yA (a0:LV) (R:LV.RT) (st:aa):bW Tryz.prog [.tmp 2] R [] [] 3000 [.code (aM Tryz.f157)] ([a0]++List.replicate (Tryz.f157.ntmps-1) ak) st=BX a0 R st:=by kernel_rfl
theorem c157 (a0:LV) {R:LV.RT} {st:aa} (h:BX a0 R st):LZ 157 [a0] st R:=
 ag.of aq Tryz.func157 (show Tryz.f157.body=some (aM Tryz.f157) by kernel_rfl) (by kernel_rfl) (show Tryz.f157.results.toList=[.tmp 2] by kernel_rfl) (az aq 3000 (Eq.mpr (yA a0 R st) h))
def w46 (a0:LV) (R:LV.RT) (st:aa):Prop:=
 bd2 (cn st a0) fun v0 st1=>bd (al 0 v0) fun v2=>bd (ld1 st1 v2) fun v3=>bd (asC 169 (some (LV.agg [])) v3 true) fun v4=>bd (af v4 1) fun v5=>bd (af v4 0) fun _v6=>aG v5 (R (LV.int
 IntKind.i64 1) st1) (bd (asC 4 (some (LV.bool false)) v3 true) fun v7=>bd (af v7 1) fun v8=>bd (af v7 0) fun _v9=>aG v8 (R (LV.int IntKind.i64 2) st1) (bd (asC 3 (some (LV.int IntKind.i64 0)) v3 true)
 fun v10=>bd (af v10 1) fun v11=>bd (af v10 0) fun _v12=>aG v11 (R (LV.int IntKind.i64 3) st1) (bd (asC 170 (some (LV.cplx FloatKind.f64 0 0)) v3 true) fun v13=>bd (af v13 1) fun v14=>bd
 (af v13 0) fun _v15=>aG v14 (R (LV.int IntKind.i64 4) st1) (bd (asC 9 (some (LV.str [])) v3 true) fun v16=>bd (af v16 1) fun v17=>bd (af v16 0) fun _v18=>aG v17 (R (LV.int IntKind.i64 5)
 st1) (bd (asC 171 (some LV.nils) v3 true) fun v19=>bd (af v19 1) fun v20=>bd (af v19 0) fun _v21=>aG v20 (R (LV.int IntKind.i64 6) st1) (bd (asC 173 (some LV.nilm) v3 true) fun v22=>bd (af v22
 1) fun v23=>bd (af v22 0) fun _v24=>aG v23 (R (LV.int IntKind.i64 7) st1) (R (LV.int IntKind.i64 0) st1)))))))
theorem Av (a0:LV) (R:LV.RT) (st:aa):bW Tryz.prog [.tmp 2] R [] [] 3000 [.code (aM Tryz.f46)] ([a0]++List.replicate (Tryz.f46.ntmps-1) ak) st=w46 a0 R st:=by kernel_rfl
theorem c46 (a0:LV) {R:LV.RT} {st:aa} (h:w46 a0 R st):LZ 46 [a0] st R:=
 ag.of aq Tryz.func46 (show Tryz.f46.body=some (aM Tryz.f46) by kernel_rfl) (by kernel_rfl) (show Tryz.f46.results.toList=[.tmp 2] by kernel_rfl) (az aq 3000 (Eq.mpr (Av a0 R st) h))
def w49 (a0:LV) (R:LV.RT) (st:aa):Prop:=
 bd2 (cn st a0) fun v0 st1=>bd (al 0 v0) fun v2=>bd (ld1 st1 v2) fun v3=>bd (asC 173 (some LV.nilm) v3 true) fun v4=>bd (af v4 0) fun v5=>bd (af v4 1) fun _v6=>LZ 116 [v5] st1
 fun v7 st8=>LZ 115 [v7] st8 fun v9 st10=>R v9 st10
theorem Aw (a0:LV) (R:LV.RT) (st:aa):bW Tryz.prog [.tmp 2] R [] [] 3000 [.code (aM Tryz.f49)] ([a0]++List.replicate (Tryz.f49.ntmps-1) ak) st=w49 a0 R st:=by kernel_rfl
theorem c49 (a0:LV) {R:LV.RT} {st:aa} (h:w49 a0 R st):LZ 49 [a0] st R:=
 ag.of aq Tryz.func49 (show Tryz.f49.body=some (aM Tryz.f49) by kernel_rfl) (by kernel_rfl) (show Tryz.f49.results.toList=[.tmp 2] by kernel_rfl) (az aq 3000 (Eq.mpr (Aw a0 R st) h))
def BZ (a0:LV) (R:LV.RT) (st:aa):Prop:=
 bd2 (cn st a0) fun v0 st1=>bd (al 0 v0) fun v2=>bd (ld1 st1 v2) fun v3=>bd (asC 171 (some LV.nils) v3 true) fun v4=>bd (af v4 0) fun v5=>bd (af v4 1) fun v6=>aG v6 (LZ 159
 [v5] st1 fun v7 st8=>R v7 st8) (bd (al 0 v0) fun v9=>bd (ld1 st1 v9) fun v10=>bd (asC 173 (some LV.nilm) v10 true) fun v11=>bd (af v11 0) fun v12=>bd (af v11 1) fun _v13=>bd (ldA st1 v0 1) fun
 v14=>LZ 49 [v14] st1 fun v15 st16=>bd (bj v15) fun v17=>nD LV.nils v12 v15 v17 (LV.int IntKind.i64 0) R st16)
theorem yB (a0:LV) (R:LV.RT) (st:aa):bW Tryz.prog [.tmp 2] R [0,1,2,3,4,7,8,9,10,11,12,13,14,15,16,17,18,19,20,21,22,23,24,25,29,30,31,32,33,34,35,36,37,38,39] [] 3000 [.code (aM Tryz.f101)] ([a0]++List.replicate (Tryz.f101.ntmps-1) ak) st=BZ a0 R st:=by kernel_rfl
theorem Ax (a0:LV) {R:LV.RT} {st:aa} (h:BZ a0 R st):LZ 101 [a0] st R:=
 ag.of aq Tryz.func101 (show Tryz.f101.body=some (aM Tryz.f101) by kernel_rfl) (by kernel_rfl) (show Tryz.f101.results.toList=[.tmp 2] by kernel_rfl) (az aq 3000 (Eq.mpr (yB a0 R st) h))
def pN (x5 x6 x26 x27 x28:LV) (R:LV.RT) (st:aa):Prop:=
 bd (aI BinOp.lss x28 x27) fun v0=>aG v0 (bd (bo 1 x26 x28) fun v1=>bd (ld1 st v1) fun v2=>bd (kH st true (some (LV.agg [LV.nili])) x6 v2 false) fun v3=>bd2 (cK st 1 (aN (fun i=>some (i*1,1))
 (List.replicate 1 [LV.nili]).flatten [(0,v3)])) fun v4 st5=>bd2 (aY st5 1 16 Md.rw x5 v4) fun v6 st7=>bd (aI BinOp.add x28 (LV.int IntKind.i64 1)) fun v8=>nD v6 x6 x26 x27 v8 R st7) (R x5 st)
theorem vD (x5 x6 x26 x27 x28:LV) (R:LV.RT) (st:aa):bW Tryz.prog [.tmp 2] R [0,1,2,3,4,7,8,9,10,11,12,13,14,15,16,17,18,19,20,21,22,23,24,25,29,30,31,32,33,34,35,36,37,38,39] [] 3000 (cF (ca Tryz.f101 1)) (LV.jk 5 (x5::x6::(LV.jk 19 (x26::x27::x28::(LV.jk 11 []))))) st=pN x5 x6 x26 x27 x28 R st:=by kernel_rfl
theorem tj (x5 x6 x26 x27 x28:LV) {R:LV.RT} {st:aa} (h:pN x5 x6 x26 x27 x28 R st):nD x5 x6 x26 x27 x28 R st:=
 LT.at aq 3000 (Eq.mpr (vD x5 x6 x26 x27 x28 R st) h)
def B0 (a0:LV) (R:LV.RT) (st:aa):Prop:=
 bd (eqB BinOp.eql (sr a0 LV.nils)) fun v0=>aG v0 (R LV.nils st) (bd2 (cK st 0 (aN (fun i=>some (i*1,1)) (List.replicate 0 [LV.nili]).flatten [])) fun v1 st2=>bd2 (aY st2 1 16 Md.rw v1 a0) fun v3
 st4=>R v3 st4)
theorem yC (a0:LV) (R:LV.RT) (st:aa):bW Tryz.prog [.tmp 2] R [] [] 3000 [.code (aM Tryz.f159)] ([a0]++List.replicate (Tryz.f159.ntmps-1) ak) st=B0 a0 R st:=by kernel_rfl
theorem c159 (a0:LV) {R:LV.RT} {st:aa} (h:B0 a0 R st):LZ 159 [a0] st R:=
 ag.of aq Tryz.func159 (show Tryz.f159.body=some (aM Tryz.f159) by kernel_rfl) (by kernel_rfl) (show Tryz.f159.results.toList=[.tmp 2] by kernel_rfl) (az aq 3000 (Eq.mpr (yC a0 R st) h))
def w50 (a0 a1:LV) (R:LV.RT) (st:aa):Prop:=
 bd2 (cn st a0) fun v0 st1=>nw st1 [LV.nili] fun v2 st3=>bd (al 0 v0) fun v4=>bd (ld1 st3 v4) fun v5=>bd (asC 173 (some LV.nilm) v5 true) fun v6=>bd (af v6 0) fun v7=>bd (af v6 1) fun _v8=>bd (kH st3 true (some (LV.agg [LV.nili])) v7 a1 true) fun v9=>bd (af v9 0) fun v10=>bd (af v9 1) fun v11=>nw st3 [LV.nili] fun v12 st13=>bd2 (lmk (stV st13 1 v12 v10)) fun _v14 st15=>bd (ldA st15
 v12 1) fun v16=>bd2 (lmk (stV st15 1 v2 v16)) fun _v17 st18=>bd (ldA st18 v2 1) fun v19=>R (LV.tup [v19,v11]) st18
theorem Ay (a0 a1:LV) (R:LV.RT) (st:aa):bW Tryz.prog [.cell 4 57,.tmp 5] R [] [] 3000 [.code (aM Tryz.f50)] ([a0,a1]++List.replicate (Tryz.f50.ntmps-2) ak) st=w50 a0 a1 R st:=by kernel_rfl
theorem c50 (a0 a1:LV) {R:LV.RT} {st:aa} (h:w50 a0 a1 R st):LZ 50 [a0,a1] st R:=
 ag.of aq Tryz.func50 (show Tryz.f50.body=some (aM Tryz.f50) by kernel_rfl) (by kernel_rfl) (show Tryz.f50.results.toList=[.cell 4 57,.tmp 5] by kernel_rfl) (az aq 3000 (Eq.mpr (Ay a0 a1 R st) h))
def w48 (a0 a1:LV) (R:LV.RT) (st:aa):Prop:=
 bd2 (cn st a0) fun v0 st1=>bd2 (cn st1 a1) fun v2 st3=>bd (al 0 v0) fun v4=>bd (ld1 st3 v4) fun v5=>bd (asC 171 (some LV.nils) v5 true) fun v6=>bd (af v6 1) fun v7=>bd (af v6 0) fun v8=>aG v7 (bd (al 0 v2) fun v9=>bd (ld1 st3 v9) fun v10=>bd (asC 171 (some LV.nils) v10 true) fun v11=>bd (af v11 0) fun v12=>bd (af v11 1) fun v13=>aG v13 (LZ 113 [v8,v12,LV.fn
 (Fn.func 48) [] []] st3 fun v14 st15=>R v14 st15) (R (LV.bool false) st3)) (bd (asC 173 (some LV.nilm) v5 true) fun v16=>bd (af v16 1) fun v17=>bd (af v16 0) fun v18=>aG v17 (bd (al 0 v2) fun v19
 => bd (ld1 st3 v19) fun v20=>bd (asC 173 (some LV.nilm) v20 true) fun v21=>bd (af v21 0) fun v22=>bd (af v21 1) fun v23=>aG v23 (LZ 114 [v18,v22,LV.fn (Fn.func 48) [] []] st3 fun v24
 st25=>R v24 st25) (R (LV.bool false) st3)) (bd (al 0 v2) fun v26=>bd (ld1 st3 v26) fun v27=>bd (asC 171 (some LV.nils) v27 true) fun v28=>bd (af v28 1) fun v29=>bd (af v28 0) fun _v30=>bd (asC
 173 (some LV.nilm) v27 true) fun v31=>bd (af v31 1) fun v32=>bd (af v31 0) fun _v33=>bd (oq v29 (LV.bool true) v32) fun v34=>aG v34 (R (LV.bool false) st3) (bd (al 0 v0) fun v35=>bd (ld1 st3
 v35) fun v36=>bd (al 0 v2) fun v37=>bd (ld1 st3 v37) fun v38=>bd (eqB BinOp.eql (nV true (fm Tryz.prog) v36 v38)) fun v39=>R v39 st3)))
theorem Az (a0 a1:LV) (R:LV.RT) (st:aa):bW Tryz.prog [.tmp 4] R [] [] 3000 [.code (aM Tryz.f48)] ([a0,a1]++List.replicate (Tryz.f48.ntmps-2) ak) st=w48 a0 a1 R st:=by kernel_rfl
theorem c48 (a0 a1:LV) {R:LV.RT} {st:aa} (h:w48 a0 a1 R st):LZ 48 [a0,a1] st R:=
 ag.of aq Tryz.func48 (show Tryz.f48.body=some (aM Tryz.f48) by kernel_rfl) (by kernel_rfl) (show Tryz.f48.results.toList=[.tmp 4] by kernel_rfl) (az aq 3000 (Eq.mpr (Az a0 a1 R st) h))
def AA (a0 a1 a2:LV) (R:LV.RT) (st:aa):Prop:=
 bd (bj a0) fun v0=>bd (bj a1) fun v1=>bd (aI BinOp.neq v0 v1) fun v2=>aG v2 (R (LV.bool false) st) (bd (bj a0) fun v3=>pL a1 a2 a0 v3 (LV.int IntKind.i64 0) R st)
theorem yD (a0 a1 a2:LV) (R:LV.RT) (st:aa):bW Tryz.prog [.tmp 6] R [0,3,4,5,6,7,8,9,10,11,12,13,14,18,19,20,21,22,23,24,25,26,27,28,29,30,31] [] 3000 [.code (aM Tryz.f113)] ([a0,a1,a2]++List.replicate (Tryz.f113.ntmps-3) ak) st=AA a0 a1 a2 R st:=by kernel_rfl
theorem CO (a0 a1 a2:LV) {R:LV.RT} {st:aa} (h:AA a0 a1 a2 R st):LZ 113 [a0,a1,a2] st R:=
 ag.of aq Tryz.func113 (show Tryz.f113.body=some (aM Tryz.f113) by kernel_rfl) (by kernel_rfl) (show Tryz.f113.results.toList=[.tmp 6] by kernel_rfl) (az aq 3000 (Eq.mpr (yD a0 a1 a2 R st) h))
def pO (x1 x2 x15 x16 x17:LV) (R:LV.RT) (st:aa):Prop:=
 bd (aI BinOp.lss x17 x16) fun v0=>aG v0 (bd (bo 1 x15 x17) fun v1=>bd (ldA st v1 1) fun v2=>nw st [LV.nili] fun v3 st4=>bd2 (lmk (stV st4 1 v3 v2)) fun _v5 st6=>bd (bo 1 x1 x17) fun v7=>bd (ldA st6 v7
 1) fun v8=>nw st6 [LV.nili] fun v9 st10=>bd2 (lmk (stV st10 1 v9 v8)) fun _v11 st12=>bd (ldA st12 v3 1) fun v13=>bd (ldA st12 v9 1) fun v14=>bd2 (sA x2 [v13,v14]) fun f15 xs16=>LZ f15 xs16
 st12 fun v17 st18=>bd (lun UnOp.not v17) fun v19=>aG v19 (R (LV.bool false) st18) (bd (aI BinOp.add x17 (LV.int IntKind.i64 1)) fun v20=>pL x1 x2 x15 x16 v20 R st18)) (R (LV.bool true) st)
theorem vE (x1 x2 x15 x16 x17:LV) (R:LV.RT) (st:aa):bW Tryz.prog [.tmp 6] R [0,3,4,5,6,7,8,9,10,11,12,13,14,18,19,20,21,22,23,24,25,26,27,28,29,30,31] [] 3000 (cF (ca Tryz.f113 1)) (.aJ::x1::x2::(LV.jk 12 (x15::x16::x17::(LV.jk 14 [])))) st=pO x1 x2 x15 x16 x17 R st:=by kernel_rfl
theorem wR (x1 x2 x15 x16 x17:LV) {R:LV.RT} {st:aa} (h:pO x1 x2 x15 x16 x17 R st):pL x1 x2 x15 x16 x17 R st:=
 LT.at aq 3000 (Eq.mpr (vE x1 x2 x15 x16 x17 R st) h)
def AB (a0 a1 a2:LV) (R:LV.RT) (st:aa):Prop:=
 bd (kM st a0) fun v0=>bd (kM st a1) fun v1=>bd (aI BinOp.neq v0 v1) fun v2=>aG v2 (R (LV.bool false) st) (bd2 (kK Tryz.prog st 173 a0) fun v3 st4=>pM a1 a2 v3 R st4)
theorem yE (a0 a1 a2:LV) (R:LV.RT) (st:aa):bW Tryz.prog [.tmp 6] R [0,3,4,5,6,7,8,9,10,11,12,13,14,15,16,18,19,20,21,22,23,24,25,26,27,28,29,30,31,32,33,34,35,36,37] [] 3000 [.code (aM Tryz.f114)] ([a0,a1,a2]++List.replicate (Tryz.f114.ntmps-3) ak) st=AB a0 a1 a2 R st:=by kernel_rfl
theorem CQ (a0 a1 a2:LV) {R:LV.RT} {st:aa} (h:AB a0 a1 a2 R st):LZ 114 [a0,a1,a2] st R:=
 ag.of aq Tryz.func114 (show Tryz.f114.body=some (aM Tryz.f114) by kernel_rfl) (by kernel_rfl) (show Tryz.f114.results.toList=[.tmp 6] by kernel_rfl) (az aq 3000 (Eq.mpr (yE a0 a1 a2 R st) h))
def pP (x1 x2 x17:LV) (R:LV.RT) (st:aa):Prop:=
 gN st x17 fun v0 st1=>bd (af v0 0) fun v2=>aG v2 (bd (kL st1 x17) fun v3=>bd (af v3 0) fun v4=>bd (af v3 1) fun v5=>nw st1 [LV.nili] fun v6 st7=>bd2 (lmk (stV st7 1 v6 v5)) fun _v8
 st9=>bd (kH st9 true (some (LV.agg [LV.nili])) x1 v4 true) fun v10=>bd (af v10 0) fun v11=>bd (af v10 1) fun v12=>nw st9 [LV.nili] fun v13 st14=>bd2 (lmk (stV st14 1 v13 v11)) fun _v15 st16=>bd
 (lun UnOp.not v12) fun v17=>aG v17 (R (LV.bool false) st16) (bd (ldA st16 v6 1) fun v18=>bd (ldA st16 v13 1) fun v19=>bd2 (sA x2 [v18,v19]) fun f20 xs21=>LZ f20 xs21 st16 fun v22 st23=>bd
 (lun UnOp.not v22) fun v24=>aG v24 (R (LV.bool false) st23) (pM x1 x2 x17 R st23))) (R (LV.bool true) st1)
theorem vF (x1 x2 x17:LV) (R:LV.RT) (st:aa):bW Tryz.prog [.tmp 6] R [0,3,4,5,6,7,8,9,10,11,12,13,14,15,16,18,19,20,21,22,23,24,25,26,27,28,29,30,31,32,33,34,35,36,37] [] 3000 (cF (ca Tryz.f114 1)) (.aJ::x1::x2::(LV.jk 14 (x17::(LV.jk 20 [])))) st=pP x1 x2 x17 R st:=by kernel_rfl
theorem wS (x1 x2 x17:LV) {R:LV.RT} {st:aa} (h:pP x1 x2 x17 R st):pM x1 x2 x17 R st:=
 LT.at aq 3000 (Eq.mpr (vF x1 x2 x17 R st) h)
def w97 (a0:LV) (R:LV.RT) (st:aa):Prop:=
 bd2 (cn st a0) fun v0 st1=>bd (al 0 v0) fun v2=>bd (ld1 st1 v2) fun v3=>bd (asC 4 (some (LV.bool false)) v3 true) fun v4=>bd (af v4 0) fun v5=>bd (af v4 1) fun v6=>R (LV.tup [v5,v6]) st1
theorem AD (a0:LV) (R:LV.RT) (st:aa):bW Tryz.prog [.tmp 2,.tmp 3] R [] [] 3000 [.code (aM Tryz.f97)] ([a0]++List.replicate (Tryz.f97.ntmps-1) ak) st=w97 a0 R st:=by kernel_rfl
theorem c97 (a0:LV) {R:LV.RT} {st:aa} (h:w97 a0 R st):LZ 97 [a0] st R:=
 ag.of aq Tryz.func97 (show Tryz.f97.body=some (aM Tryz.f97) by kernel_rfl) (by kernel_rfl) (show Tryz.f97.results.toList=[.tmp 2,.tmp 3] by kernel_rfl) (az aq 3000 (Eq.mpr (AD a0 R st) h))
def w98 (a0:LV) (R:LV.RT) (st:aa):Prop:=
 bd2 (cn st a0) fun v0 st1=>bd (al 0 v0) fun v2=>bd (ld1 st1 v2) fun v3=>bd (asC 3 (some (LV.int IntKind.i64 0)) v3 true) fun v4=>bd (af v4 0) fun v5=>bd (af v4 1) fun v6=>R (LV.tup [v5,v6])
 st1
theorem AE (a0:LV) (R:LV.RT) (st:aa):bW Tryz.prog [.tmp 2,.tmp 3] R [] [] 3000 [.code (aM Tryz.f98)] ([a0]++List.replicate (Tryz.f98.ntmps-1) ak) st=w98 a0 R st:=by kernel_rfl
theorem c98 (a0:LV) {R:LV.RT} {st:aa} (h:w98 a0 R st):LZ 98 [a0] st R:=
 ag.of aq Tryz.func98 (show Tryz.f98.body=some (aM Tryz.f98) by kernel_rfl) (by kernel_rfl) (show Tryz.f98.results.toList=[.tmp 2,.tmp 3] by kernel_rfl) (az aq 3000 (Eq.mpr (AE a0 R st) h))
def w99 (a0:LV) (R:LV.RT) (st:aa):Prop:=
 bd2 (cn st a0) fun v0 st1=>bd (al 0 v0) fun v2=>bd (ld1 st1 v2) fun v3=>bd (asC 170 (some (LV.cplx FloatKind.f64 0 0)) v3 true) fun v4=>bd (af v4 0) fun v5=>bd (af v4 1) fun v6=>bd (wj v5)
 fun v7=>bd (nY IntKind.i64 v7) fun v8=>bd (wk v5) fun v9=>bd (nY IntKind.i64 v9) fun v10=>R (LV.tup [v8,v10,v6]) st1
theorem AF (a0:LV) (R:LV.RT) (st:aa):bW Tryz.prog [.tmp 2,.tmp 3,.tmp 4] R [] [] 3000 [.code (aM Tryz.f99)] ([a0]++List.replicate (Tryz.f99.ntmps-1) ak) st=w99 a0 R st:=by kernel_rfl
theorem c99 (a0:LV) {R:LV.RT} {st:aa} (h:w99 a0 R st):LZ 99 [a0] st R:=
 ag.of aq Tryz.func99 (show Tryz.f99.body=some (aM Tryz.f99) by kernel_rfl) (by kernel_rfl) (show Tryz.f99.results.toList=[.tmp 2,.tmp 3,.tmp 4] by kernel_rfl) (az aq 3000 (Eq.mpr (AF a0 R st) h))
def B1 (a0:LV) (R:LV.RT) (st:aa):Prop:=
 bd2 (cn st a0) fun v0 st1=>bd (al 0 v0) fun v2=>bd (ld1 st1 v2) fun v3=>bd (asC 9 (some (LV.str [])) v3 true) fun v4=>bd (af v4 0) fun v5=>bd (af v4 1) fun v6=>R (LV.tup [v5,v6]) st1
theorem yF (a0:LV) (R:LV.RT) (st:aa):bW Tryz.prog [.tmp 2,.tmp 3] R [] [] 3000 [.code (aM Tryz.f100)] ([a0]++List.replicate (Tryz.f100.ntmps-1) ak) st=B1 a0 R st:=by kernel_rfl
theorem CR (a0:LV) {R:LV.RT} {st:aa} (h:B1 a0 R st):LZ 100 [a0] st R:=
 ag.of aq Tryz.func100 (show Tryz.f100.body=some (aM Tryz.f100) by kernel_rfl) (by kernel_rfl) (show Tryz.f100.results.toList=[.tmp 2,.tmp 3] by kernel_rfl) (az aq 3000 (Eq.mpr (yF a0 R st) h))
end Go.Proofs.YtknegckgmklnhaaGreatDoor
