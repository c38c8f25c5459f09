/- Parts of the proof. -/
import Derived.Test.YtknegckgmklnhaaGreatDoorVaW
namespace Go.Proofs.YtknegckgmklnhaaGreatDoor
open Go Go.CP
set_option maxRecDepth 100000
def uG (x1 x2 x3 x4 x5 x6 x7:LV) (R:LV.RT) (st:aa):Prop:=LT Tryz.prog [.cell 2 49] (ca Tryz.f27 2) R (.aJ::x1::x2::x3::x4::x5::x6::x7::(LV.jk 153 [])) st
def kc (x1 x2 x3 x4 x5 x6 x7:LV) (R:LV.RT) (st:aa):Prop:=LT Tryz.prog [.cell 2 49] (ca Tryz.f27 5) R (.aJ::x1::x2::x3::x4::x5::x6::x7::(LV.jk 153 [])) st
def uH (x1 x2 x3 x4 x5 x6 x7:LV) (R:LV.RT) (st:aa):Prop:=LT Tryz.prog [.cell 2 49] (ca Tryz.f27 8) R (.aJ::x1::x2::x3::x4::x5::x6::x7::(LV.jk 153 [])) st
def w27 (a0:LV) (R:LV.RT) (st:aa):Prop:=
 bd2 (cn st a0) fun v0 st1=>nw st1 [i64 0,LV.bool false,i64 0,i64 0,LV.str [],LV.nils,LV.nils] fun v2 st3=>bd (al 0 v0) fun v4=>bd (ld1 st3 v4) fun v5=>bd
 (aI BinOp.eql v5 (i64 1)) fun v6=>aG v6 (bd (bK (aN (aR [(0,1),(1,1),(2,1),(3,1),(4,1),(5,1),(6,1)]) [i64 0,LV.bool false,i64 0,LV.int
 IntKind.i64 0,LV.str [],LV.nils,LV.nils] [(0,i64 1)])) fun v7=>bd2 (lmk (stV st3 7 v2 v7)) fun _v8 st9=>bd (ldA st9 v2 7) fun v10=>R v10 st9) (bd (aI BinOp.eql v5 (i64 2)) fun
 v11=>aG v11 (bd (al 1 v0) fun v12=>bd (ld1 st3 v12) fun v13=>bd (bK (aN (aR [(0,1),(1,1),(2,1),(3,1),(4,1),(5,1),(6,1)]) [i64 0,LV.bool false,i64 0,
 i64 0,LV.str [],LV.nils,LV.nils] [(0,i64 2),(1,v13)])) fun v14=>bd2 (lmk (stV st3 7 v2 v14)) fun _v15 st16=>bd (ldA st16 v2 7) fun v17=>R v17 st16) (bd (aI BinOp.eql v5 (LV.int
 IntKind.i64 3)) fun v18=>aG v18 (bd (al 2 v0) fun v19=>bd (ld1 st3 v19) fun v20=>bd (bK (aN (aR [(0,1),(1,1),(2,1),(3,1),(4,1),(5,1),(6,1)]) [i64 0,LV.bool false,LV.int
 IntKind.i64 0,i64 0,LV.str [],LV.nils,LV.nils] [(0,i64 3),(2,v20)])) fun v21=>bd2 (lmk (stV st3 7 v2 v21)) fun _v22 st23=>bd (ldA st23 v2 7) fun v24=>R v24 st23) (bd (aI
 BinOp.eql v5 (i64 4)) fun v25=>aG v25 (bd (al 2 v0) fun v26=>bd (ld1 st3 v26) fun v27=>bd (fG [v27,i64 (-9007199254740992)]) fun v28=>bd (ot [v28,LV.int IntKind.i64
 9007199254740992]) fun v29=>bd (al 3 v0) fun v30=>bd (ld1 st3 v30) fun v31=>bd (fG [v31,i64 (-9007199254740992)]) fun v32=>bd (ot [v32,i64 9007199254740992]) fun v33=>bd
 (bK (aN (aR [(0,1),(1,1),(2,1),(3,1),(4,1),(5,1),(6,1)]) [i64 0,LV.bool false,i64 0,i64 0,LV.str [],LV.nils,LV.nils] [(0,i64 4),
 (2,v29),(3,v33)])) fun v34=>bd2 (lmk (stV st3 7 v2 v34)) fun _v35 st36=>bd (ldA st36 v2 7) fun v37=>R v37 st36) (bd (aI BinOp.eql v5 (i64 5)) fun v38=>aG v38 (bd (al 4 v0) fun v39=>bd
 (ld1 st3 v39) fun v40=>bd (bK (aN (aR [(0,1),(1,1),(2,1),(3,1),(4,1),(5,1),(6,1)]) [i64 0,LV.bool false,i64 0,i64 0,LV.str [],LV.nils,LV.nils]
 [(0,i64 5),(4,v40)])) fun v41=>bd2 (lmk (stV st3 7 v2 v41)) fun _v42 st43=>bd (ldA st43 v2 7) fun v44=>R v44 st43) (bd (aI BinOp.eql v5 (i64 6)) fun v45=>aG v45 (bd (bK
 (aN (aR [(0,1),(1,1),(2,1),(3,1),(4,1),(5,1),(6,1)]) [i64 0,LV.bool false,i64 0,i64 0,LV.str [],LV.nils,LV.nils] [(0,i64 6)])) fun
 v46=>nw st3 [i64 0,LV.bool false,i64 0,i64 0,LV.str [],LV.nils,LV.nils] fun v47 st48=>bd2 (lmk (stV st48 7 v47 v46)) fun _v49 st50=>uG v0 v2 v47 (LV.int
 IntKind.i64 0) (LV.tup []) (LV.tup []) (LV.tup []) R st50) (bd (aI BinOp.eql v5 (i64 7)) fun v51=>aG v51 (bd (bK (aN (aR [(0,1),(1,1),(2,1),(3,1),(4,1),(5,1),(6,1)]) [LV.int
 IntKind.i64 0,LV.bool false,i64 0,i64 0,LV.str [],LV.nils,LV.nils] [(0,i64 7)])) fun v52=>nw st3 [i64 0,LV.bool false,i64 0,LV.int
 IntKind.i64 0,LV.str [],LV.nils,LV.nils] fun v53 st54=>bd2 (lmk (stV st54 7 v53 v52)) fun _v55 st56=>kc v0 v2 (LV.tup []) (LV.tup []) v53 (i64 0) (LV.tup []) R st56) (bd (bK (aN (aR
 [(0,1),(1,1),(2,1),(3,1),(4,1),(5,1),(6,1)]) [i64 0,LV.bool false,i64 0,i64 0,LV.str [],LV.nils,LV.nils] [])) fun v57=>bd2 (lmk (stV st3 7 v2 v57)) fun
 _v58 st59=>bd (ldA st59 v2 7) fun v60=>R v60 st59)))))))
theorem AG (a0:LV) (R:LV.RT) (st:aa):bW Tryz.prog [.cell 2 49] R [0,8,9,10,11,12,13,14,15,16,17,18,19,20,21,22,23,24,25,26,27,28,29,30,31,32,33,34,35,36,37,38,39,40,41,42,43,44,45,46,47,48,49,50,51,52,53,54,55,56,57,58,59,60,61,62,63,64,65,66,67,68,69,70,71,72,73,74,75,76,77,78,79,80,81,82,83,84,85,86,87,88,89,90,91,92,93,94,95,96,97,98,99,100,101,102,103,104,105,106,107,108,109,110,111,112,113,114,115,116,117,118,119,120,121,122,123,124,125,126,127,128,129,130,131,132,133,134,135,136,137,138,139,140,141,142,143,144,145,146,147,148,149,150,151,152,153,154,155,156,157,158,159,160] [] 3000 [.code (aM Tryz.f27)] ([a0]++List.replicate (Tryz.f27.ntmps-1) ak) st=w27 a0 R st:=by kernel_rfl
theorem c27 (a0:LV) {R:LV.RT} {st:aa} (h:w27 a0 R st):LZ 27 [a0] st R:=
 ag.of aq Tryz.func27 (show Tryz.f27.body=some (aM Tryz.f27) by kernel_rfl) (by kernel_rfl) (show Tryz.f27.results.toList=[.cell 2 49] by kernel_rfl) (az aq 3000 (Eq.mpr (AG a0 R st) h))
def uI (x1 x2 x3 x4 x5 x6 x7:LV) (R:LV.RT) (st:aa):Prop:=
 bd (al 5 x1) fun v0=>bd (ld1 st v0) fun v1=>bd (bj v1) fun v2=>bd (aI BinOp.lss x4 v2) fun v3=>aG v3 (bd (al 5 x3) fun v4=>bd (ld1 st v4) fun v5=>bd (al 5 x1) fun v6=>bd (ld1 st v6) fun v7
 => bd (bo 7 v7 x4) fun v8=>bd (ldA st v8 7) fun v9=>LZ 27 [v9] st fun v10 st11=>ld1 st11 v4=some v5∧bd2 (cK st11 1 (aN (fun i=>some (i*7,7)) (List.replicate 1 [i64 0,
 LV.bool false,i64 0,i64 0,LV.str [],LV.nils,LV.nils]).flatten [(0,v10)])) fun v12 st13=>ld1 st13 v4=some v5∧bd2 (aY st13 7 96 Md.rw v5 v12) fun v14 st15=>bd (al 5 x3)
 fun v16=>bd2 (lmk (stV st15 1 v16 v14)) fun _v17 st18=>bd (aI BinOp.add x4 (i64 1)) fun v19=>uG x1 x2 x3 v19 x5 x6 x7 R st18) (bd (ldA st x3 7) fun v20=>bd2 (lmk (stV st 7 x2 v20)) fun _v21
 st22=>bd (ldA st22 x2 7) fun v23=>R v23 st22)
theorem wT (x1 x2 x3 x4 x5 x6 x7:LV) (R:LV.RT) (st:aa):bW Tryz.prog [.cell 2 49] R [0,8,9,10,11,12,13,14,15,16,17,18,19,20,21,22,23,24,25,26,27,28,29,30,31,32,33,34,35,36,37,38,39,40,41,42,43,44,45,46,47,48,49,50,51,52,53,54,55,56,57,58,59,60,61,62,63,64,65,66,67,68,69,70,71,72,73,74,75,76,77,78,79,80,81,82,83,84,85,86,87,88,89,90,91,92,93,94,95,96,97,98,99,100,101,102,103,104,105,106,107,108,109,110,111,112,113,114,115,116,117,118,119,120,121,122,123,124,125,126,127,128,129,130,131,132,133,134,135,136,137,138,139,140,141,142,143,144,145,146,147,148,149,150,151,152,153,154,155,156,157,158,159,160] [] 3000 (cF (ca Tryz.f27 2)) (.aJ::x1::x2::x3::x4::x5::x6::x7::(LV.jk 153 [])) st=uI x1 x2 x3 x4 x5 x6 x7 R st:=by kernel_rfl
theorem zv (x1 x2 x3 x4 x5 x6 x7:LV) {R:LV.RT} {st:aa} (h:uI x1 x2 x3 x4 x5 x6 x7 R st):uG x1 x2 x3 x4 x5 x6 x7 R st:=
 LT.at aq 3000 (Eq.mpr (wT x1 x2 x3 x4 x5 x6 x7 R st) h)
def uJ (x1 x2 x3 x4 x5 x6 _x7:LV) (R:LV.RT) (st:aa):Prop:=
 bd (al 5 x1) fun v0=>bd (ld1 st v0) fun v1=>bd (bj v1) fun v2=>bd (aI BinOp.lss x6 v2) fun v3=>aG v3 (bd (al 6 x1) fun v4=>bd (ld1 st v4) fun v5=>bd (bj v5) fun v6=>bd (aI BinOp.lss x6 v6)
 fun v7=>aG v7 (uH x1 x2 x3 x4 x5 x6 (i64 0) R st) (bd (ldA st x5 7) fun v8=>bd2 (lmk (stV st 7 x2 v8)) fun _v9 st10=>bd (ldA st10 x2 7) fun v11=>R v11 st10)) (bd (ldA st x5 7) fun v12=>bd2
 (lmk (stV st 7 x2 v12)) fun _v13 st14=>bd (ldA st14 x2 7) fun v15=>R v15 st14)
theorem wU (x1 x2 x3 x4 x5 x6 x7:LV) (R:LV.RT) (st:aa):bW Tryz.prog [.cell 2 49] R [0,8,9,10,11,12,13,14,15,16,17,18,19,20,21,22,23,24,25,26,27,28,29,30,31,32,33,34,35,36,37,38,39,40,41,42,43,44,45,46,47,48,49,50,51,52,53,54,55,56,57,58,59,60,61,62,63,64,65,66,67,68,69,70,71,72,73,74,75,76,77,78,79,80,81,82,83,84,85,86,87,88,89,90,91,92,93,94,95,96,97,98,99,100,101,102,103,104,105,106,107,108,109,110,111,112,113,114,115,116,117,118,119,120,121,122,123,124,125,126,127,128,129,130,131,132,133,134,135,136,137,138,139,140,141,142,143,144,145,146,147,148,149,150,151,152,153,154,155,156,157,158,159,160] [] 3000 (cF (ca Tryz.f27 5)) (.aJ::x1::x2::x3::x4::x5::x6::x7::(LV.jk 153 [])) st=uJ x1 x2 x3 x4 x5 x6 x7 R st:=by kernel_rfl
theorem zw (x1 x2 x3 x4 x5 x6 x7:LV) {R:LV.RT} {st:aa} (h:uJ x1 x2 x3 x4 x5 x6 x7 R st):kc x1 x2 x3 x4 x5 x6 x7 R st:=
 LT.at aq 3000 (Eq.mpr (wU x1 x2 x3 x4 x5 x6 x7 R st) h)
def T27 (x1 x2 x3 x4 x5 x6 x7:LV) (R:LV.RT) (g:LV) (st:aa):Prop:=
 bd (al 5 x5) fun v43=>bd (ld1 st v43) fun v44=>bd (ob3 none (some x7) none fun l h m=>cp st 7 v44 l h m) fun v45=>bd (al 5 x1) fun v46=>bd (ld1 st v46) fun v47=>bd (bo 7 v47
 x6) fun v48=>bd (ldA st v48 7) fun v49=>bd2 (cK st 0 (aN (fun i=>some (i*7,7)) (List.replicate 0 [i64 0,LV.bool false,i64 0,i64 0,
 LV.str [],LV.nils,LV.nils]).flatten [])) fun v50 st51=>ldA st51 v48 7=some v49∧ld1 st51 v46=some v47∧(ob3 none (some x7) none fun l h m=>cp st51 7 v44 l h m)=some v45∧ld1 st51
 v43=some v44∧bd2 (aY st51 7 96 Md.rw v50 v45) fun v52 st53=>ldA st53 v48 7=some v49∧ld1 st53 v46=some v47∧LZ 27 [v49] st53 fun v54 st55=>bd2 (cK st55 1 (aN
 (fun i=>some (i*7,7)) (List.replicate 1 [i64 0,LV.bool false,i64 0,i64 0,LV.str [],LV.nils,LV.nils]).flatten [(0,v54)])) fun v56 st57=>bd2
 (aY st57 7 96 Md.rw v52 v56) fun v58 st59=>bd (al 6 x5) fun v60=>bd (ld1 st59 v60) fun v61=>bd (ob3 (some x7) none none fun l h m=>cp st59 1 v61 l h m) fun v62=>bd2 (aY
 st59 1 16 Md.rw g v62) fun v63 st64=>bd (al 6 x5) fun v65=>bd2 (lmk (stV st64 1 v65 v63)) fun _v66 st67=>bd (al 5 x5) fun v68=>bd (ld1 st67 v68) fun v69=>bd (ob3 (some x7) none none
 fun l h m=>cp st67 7 v69 l h m) fun v70=>bd2 (aY st67 7 96 Md.rw v58 v70) fun v71 st72=>bd (al 5 x5) fun v73=>bd2 (lmk (stV st72 1 v73 v71)) fun _v74 st75=>bd (aI BinOp.add x6
 (i64 1)) fun v76=>kc x1 x2 x3 x4 x5 v76 x7 R st75
def I27 (x1 x2 x3 x4 x5 x6 x7:LV) (R:LV.RT) (st:aa):Prop:=
 bd (al 6 x5) fun v28=>bd (ld1 st v28) fun v29=>bd (ob3 none (some x7) none fun l h m=>cp st 1 v29 l h m) fun v30=>bd (al 6 x1) fun v31=>bd (ld1 st v31) fun v32=>bd (bo 1 v32
 x6) fun v33=>bd (ld1 st v33) fun v34=>(bd2 (cK st 1 (aN (fun i=>some (i*1,1)) (List.replicate 1 [LV.str []]).flatten [(0,v34)])) fun v35 st36=>(ob3 none (some x7) none fun l h m=>cp st36 1 v29 l h m)=some v30∧ld1 st36 v28=some v29∧bd2 (cK st36 0 (aN (fun i=>some (i*1,1)) (List.replicate 0 [LV.str []]).flatten [])) fun v37 st38=>ld1 st38 v33=some v34
 ∧ ld1 st38 v31=some v32∧(ob3 none (some x7) none fun l h m=>cp st38 1 v29 l h m)=some v30∧ld1 st38 v28=some v29∧bd2 (aY st38 1 16 Md.rw v37 v30) fun v39 st40=>ld1 st40 v33 =
 some v34∧ld1 st40 v31=some v32∧bd2 (aY st40 1 16 Md.rw v39 v35) fun v41 st42=>T27 x1 x2 x3 x4 x5 x6 x7 R v41 st42)∧bd2 (cK st 0 (aN (fun i=>some (i*1,1)) (List.replicate 0
 [LV.str []]).flatten [])) fun v77 st78=>ld1 st78 v33=some v34∧ld1 st78 v31=some v32∧(ob3 none (some x7) none fun l h m=>cp st78 1 v29 l h m)=some v30∧ld1 st78 v28=some v29∧
 (bd2 (cK st78 1 (aN (fun i=>some (i*1,1)) (List.replicate 1 [LV.str []]).flatten [(0,v34)])) fun v79 st80=>(ob3 none (some x7) none fun l h m=>cp st80 1 v29 l h m)=some v30∧
 ld1 st80 v28=some v29∧bd2 (aY st80 1 16 Md.rw v77 v30) fun v81 st82=>ld1 st82 v33=some v34∧ld1 st82 v31=some v32∧bd2 (aY st82 1 16 Md.rw v81 v79) fun v83 st84=>T27 x1 x2 x3
 x4 x5 x6 x7 R v83 st84)∧bd2 (aY st78 1 16 Md.rw v77 v30) fun v119 st120=>ld1 st120 v33=some v34∧ld1 st120 v31=some v32∧bd2 (cK st120 1 (aN (fun i=>some (i*1,1))
 (List.replicate 1 [LV.str []]).flatten [(0,v34)])) fun v121 st122=>(ob3 none (some x7) none fun l h m=>cp st122 1 v29 l h m)=some v30∧ld1 st122 v28=some v29∧bd2 (aY st122 1 16
 Md.rw v119 v121) fun v123 st124=>T27 x1 x2 x3 x4 x5 x6 x7 R v123 st124
def rE (x1 x2 x3 x4 x5 x6 x7:LV) (R:LV.RT) (st:aa):Prop:=
 bd (al 6 x5) fun v0=>bd (ld1 st v0) fun v1=>bd (bj v1) fun v2=>bd (aI BinOp.lss x7 v2) fun v3=>aG v3 (bd (al 6 x5) fun v4=>bd (ld1 st v4) fun v5=>bd (bo 1 v5 x7) fun v6=>bd (ld1 st v6) fun v7=>bd (al 6 x1) fun v8=>bd (ld1 st v8) fun v9=>bd (bo 1 v9 x6) fun v10=>bd (ld1 st v10) fun v11=>bd (mj BinOp.lss v7 v11) fun v12=>aG v12 (bd (aI BinOp.add
 x7 (i64 1)) fun v13=>uH x1 x2 x3 x4 x5 x6 v13 R st) (bd (al 6 x5) fun v14=>bd (ld1 st v14) fun v15=>bd (bj v15) fun v16=>bd (aI BinOp.lss x7 v16) fun v17=>aG v17
 (bd (al 6 x5) fun v18=>bd (ld1 st v18) fun v19=>bd (bo 1 v19 x7) fun v20=>bd (ld1 st v20) fun v21=>bd (al 6 x1) fun v22=>bd (ld1 st v22) fun v23=>bd (bo 1 v23 x6) fun v24=>bd
 (ld1 st v24) fun v25=>bd (mj BinOp.eql v21 v25) fun v26=>aG v26 (bd (aI BinOp.add x6 (i64 1)) fun v27=>kc x1 x2 x3 x4 x5 v27 x7 R st) (I27 x1 x2 x3 x4 x5 x6 x7 R st))
 (I27 x1 x2 x3 x4 x5 x6 x7 R st))) (bd (al 6 x5) fun v290=>bd (ld1 st v290) fun v291=>bd (bj v291) fun v292=>bd (aI BinOp.lss x7 v292) fun v293=>aG v293 (bd (al 6 x5) fun v294=>bd (ld1 st v294) fun v295=>bd (bo 1 v295 x7) fun v296=>bd (ld1 st v296) fun v297=>bd (al 6 x1) fun v298=>bd (ld1 st v298) fun v299=>bd (bo 1 v299 x6) fun v300=>bd (ld1 st v300) fun
 v301=>bd (mj BinOp.eql v297 v301) fun v302=>aG v302 (bd (aI BinOp.add x6 (i64 1)) fun v303=>kc x1 x2 x3 x4 x5 v303 x7 R st) (I27 x1 x2 x3 x4 x5 x6 x7 R st)) (I27 x1 x2
 x3 x4 x5 x6 x7 R st))
theorem wV (x1 x2 x3 x4 x5 x6 x7:LV) (R:LV.RT) (st:aa):bW Tryz.prog [.cell 2 49] R [0,8,9,10,11,12,13,14,15,16,17,18,19,20,21,22,23,24,25,26,27,28,29,30,31,32,33,34,35,36,37,38,39,40,41,42,43,44,45,46,47,48,49,50,51,52,53,54,55,56,57,58,59,60,61,62,63,64,65,66,67,68,69,70,71,72,73,74,75,76,77,78,79,80,81,82,83,84,85,86,87,88,89,90,91,92,93,94,95,96,97,98,99,100,101,102,103,104,105,106,107,108,109,110,111,112,113,114,115,116,117,118,119,120,121,122,123,124,125,126,127,128,129,130,131,132,133,134,135,136,137,138,139,140,141,142,143,144,145,146,147,148,149,150,151,152,153,154,155,156,157,158,159,160] [] 3000 (cF (ca Tryz.f27 8)) (.aJ::x1::x2::x3::x4::x5::x6::x7::(LV.jk 153 [])) st=rE x1 x2 x3 x4 x5 x6 x7 R st:=by kernel_rfl
theorem zx (x1 x2 x3 x4 x5 x6 x7:LV) {R:LV.RT} {st:aa} (h:rE x1 x2 x3 x4 x5 x6 x7 R st):uH x1 x2 x3 x4 x5 x6 x7 R st:=
 LT.at aq 3000 (Eq.mpr (wV x1 x2 x3 x4 x5 x6 x7 R st) h)
mutual
def lvT:T→LV
 | .null=>.nili
 | .unknown=>.iface 169 (.agg [])
 | .bool b=>.iface 4 (.bool b)
 | .int n=>.iface 3 (.int .i64 n)
 | .point a b=>.iface 170 (.cplx .f64 (fb a) (fb b))
 | .text s=>.iface 9 (.str s)
 | .list l=>.iface 171 (.isl (dM l) l.length none)
 | .map es=>.iface 173 (.imap (es.map fun e=>.str e.1) (dm es))
def dM:List T→List LV
 | []=>[]
 | t::ts=>lvT t::dM ts
def dm:List (List UInt8 × T)→List LV
 | []=>[]
 | e::es=>.agg [lvT e.2]::dm es
end
abbrev vT (t:T):LV:=.agg [lvT t]
theorem gq:∀ {l:List T},dM l=l.map lvT
 | []=>rfl
 | t::ts=>by simp[dM,gq (l:=ts)]
theorem ke:∀ {l:List (List UInt8 × T)},dm l=l.map fun e=>vT e.2
 | []=>rfl
 | t::ts=>by simp[dm,ke (l:=ts)]
mutual
@[simp] theorem ct:∀ {t:T},(lvT t).plain=true
 | .null=>rfl
 | .unknown=>rfl
 | .bool _=>rfl
 | .int _=>rfl
 | .point _ _=>rfl
 | .text _=>rfl
 | .list l=>by simp only[lvT,LV.plain];exact ff
 | .map es=>by
  simp only[lvT,LV.plain,aK]
  exact ⟨bF fun _ _=>rfl,jx⟩
@[simp] theorem ff:∀ {l:List T},LV.au (dM l)=true
 | []=>rfl
 | t::ts=>by simp only[dM,LV.au,aK];exact ⟨ct,ff⟩
@[simp] theorem jx:∀ {l:List (List UInt8 × T)},LV.au (dm l)=true
 | []=>rfl
 | t::ts=>by simp only[dm,LV.au,LV.plain,aK,Bool.and_true];exact ⟨ct,jx⟩
end
theorem gr:∀ {t:T},(lvT t).one=true:=fun {t}=>by cases t<;>rfl
theorem bG {t:T}:(vT t).plain=true:=by simp only[LV.plain,LV.au,ct,Bool.and_true]
theorem fU {t:T}:LV.au [vT t]=true:=by simp only[LV.au,bG,Bool.and_true]
theorem kf (t:T):Pu Tryz.prog 46 [vT t] (i64 t.kind):=
 Pu.of (c46 _ (by cases t<;>exact (rfl:_=_))) fU rfl
theorem wW:Pu Tryz.prog 66 [] (vT .null):=Pu.of (c66 (by exact ⟨_,rfl,_,_,rfl,rfl,rfl⟩)) rfl rfl
theorem call157:cf Tryz.prog 157:=⟨Tryz.f157,aM Tryz.f157,Tryz.func157,by kernel_rfl,by kernel_rfl⟩
theorem call159:cf Tryz.prog 159:=⟨Tryz.f159,aM Tryz.f159,Tryz.func159,by kernel_rfl,by kernel_rfl⟩
theorem dN {n b:Nat} (hn:n≤2 ^ 31) (hb:b≤256):dB n b=true:=by
 have:n*b≤2 ^ 31*256:=Nat.mul_le_mul hn hb
 simp only[dB,aK,decide_eq_true_eq]
 omega
theorem wX {cs:List LV} {n:Nat} (hl:cs.length=n) (hb:n≤big) (hp:LV.au cs=true):Pu Tryz.prog 157 [.isl cs n none] (.isl cs n none):=by
 refine Pu.of ?_ (by simp only[LV.au,LV.plain,hp,Bool.and_true]) (by simp only[LV.plain,hp])
 rcases Nat.eq_zero_or_pos n with h0|h0
 ·subst h0
  have hc:cs=[]:=List.eq_nil_of_length_eq_zero hl
  subst hc
  refine ag.BW call157 (c157 _ ?_) (c157 _ ?_)
  ·exact .inr (.inr ⟨.inr rfl,rfl,rfl⟩)
  ·exact .inl ⟨0,0,.ex 0,.rw,[],rfl,rfl,rfl,Nat.le_refl _,rfl⟩
 ·apply c157
  show bd (eqB .eql (sr (.isl cs n none) .nils)) _
  rw[rn h0]
  show bd2 (aY ([]++[.cells .rw []]) 1 16 Md.rw (.sl 0 0 0 (.ex 0)) (.isl cs n none)) _
  exact rp h0 (by omega) (dN (by unfold big at hb;omega) (by omega)) rfl hp fun r s h=>h
theorem wY {cs:List LV} {n:Nat} (hl:cs.length=n) (hb:n≤big) (hp:LV.au cs=true):Pu Tryz.prog 159 [.isl cs n none] (.isl cs n none):=by
 refine Pu.of ?_ (by simp only[LV.au,LV.plain,hp,Bool.and_true]) (by simp only[LV.plain,hp])
 rcases Nat.eq_zero_or_pos n with h0|h0
 ·subst h0
  have hc:cs=[]:=List.eq_nil_of_length_eq_zero hl
  subst hc
  refine ag.BW call159 (c159 _ ?_) (c159 _ ?_)
  ·exact .inr (.inr ⟨.inr rfl,rfl,rfl⟩)
  ·exact .inl ⟨0,0,.ex 0,.rw,[],rfl,rfl,rfl,Nat.le_refl _,rfl⟩
 ·apply c159
  show bd (eqB .eql (sr (.isl cs n none) .nils)) _
  rw[rn h0]
  show bd2 (aY ([]++[.cells .rw []]) 1 16 Md.rw (.sl 0 0 0 (.ex 0)) (.isl cs n none)) _
  exact rp h0 (by omega) (dN (by unfold big at hb;omega) (by omega)) rfl hp fun r s h=>h
theorem ik:∀ {ss seen:List (List UInt8)},ss.Nodup→(∀ s ∈ ss,s ∉ seen)→cu (ss.map .str) seen=some ss
 | [],_,_,_=>rfl
 | s::ss,seen,hn,hd=>by
  simp only[List.nodup_cons] at hn
  simp only[List.map_cons,cu]
  rw[if_neg (hd s (by simp)),ik hn.2 fun x hx=>by
   simp only[List.mem_cons,not_or]
   exact ⟨fun e=>hn.1 (e ▸ hx),hd x (by simp[hx])⟩]
  rfl
theorem yG {es:List (List UInt8 × T)} {k:List UInt8}:cS (.str k) ((es.map fun e=>LV.str e.1).zip (dm es))=some ((T.find es k).map vT):=by
 induction es with
 | nil=>rfl
 | cons e es ih=>
  simp only[List.map_cons,dm,List.zip_cons_cons,cS,fo]
  by_cases h:k=e.1
  ·subst h;simp[T.find]
  ·have h1:(k==e.1)=false:=by simpa using h
   have h2:(e.1==k)=false:=by simpa using Ne.symm h
   simp only[h1,ih,T.find,List.find?_cons,h2]
theorem kg {es:List (List UInt8 × T)}:(dm es).length=es.length:=by rw[ke];simp
theorem pQ {st:aa} {es:List (List UInt8 × T)} {k:List UInt8} {ok:Bool} (hn:(es.map (·.1)).Nodup) :
  kH st true (some (.agg [.nili])) (.imap (es.map fun e=>.str e.1) (dm es)) (.str k) ok =
   some (if ok then .tup [vT ((T.find es k).getD .null),.bool (T.find es k).isSome] else vT ((T.find es k).getD .null)):=by
 have hk:(cu (es.map fun e=>LV.str e.1) []).isSome=true:=by
  have:=ik (ss:=es.map (·.1)) (seen:=[]) hn (by simp)
  rw[List.map_map] at this
  simp only[Function.comp_def] at this
  rw[this];rfl
 show tX _ _ _ _ _ _=_
 unfold tX
 rw[if_pos ⟨rfl,rfl,hk,by simp[kg]⟩,yG]
 cases hf:T.find es k<;>cases ok<;>rfl
theorem zy {t:T} (h:t.ok) (k:List UInt8):Pu Tryz.prog 50 [vT t,.str k] (.tup [vT ((t.at k).getD .null),.bool (t.at k).isSome]):=by
 refine Pu.of (c50 _ _ ?_) (by simp[LV.au,LV.plain]) (by simp[LV.plain,LV.au])
 cases t with
 | map es=>
  simp only[T.ok] at h
  show bd (kH _ true (some (.agg [.nili])) (.imap (es.map fun e=>.str e.1) (dm es)) (.str k) true) _
  rw[pQ (b6 h.2.2)]
  show bd (some _) _
  simp only[T.at]
  generalize (T.find es k).getD .null=y
  have hp:∀ s,dp s (vT y) (vT y):=fun s=>bk _ bG
  revert hp
  cases y<;>exact fun hp=>⟨_,rfl,_,_,rfl,hp _,_,_,rfl,rfl,rfl⟩
 | _=>exact ⟨_,rfl,_,_,rfl,⟨_,rfl,_,_,rfl,rfl,rfl⟩,_,_,rfl,rfl,rfl⟩
theorem yH {l:List T} (h:l.length≤big):Pu Tryz.prog 94 [.isl (dM l) l.length none] (vT (.list l)):=by
 have hl:(dM l).length=l.length:=by rw[gq];simp
 refine Pu.of (c94 _ ?_) (by simp[LV.au,LV.plain]) bG
 refine (wX hl h ff).call ?_
 exact bk (v:=vT (.list l)) _ bG
abbrev vL (l:List T):LV:=.isl (dM l) l.length none
theorem kj {l:List T}:(dM l).length=l.length:=by rw[gq];simp
theorem nF {l:List T} {i:Nat}:(dM l)[i]?=(l[i]?).map lvT:=by rw[gq];simp
theorem rF {a b:List T}:dM (a++b)=dM a++dM b:=by simp[gq]
abbrev sL (l:List (List UInt8)):LV:=.isl (l.map .str) l.length none
theorem bO {i:Nat} (h:i<2 ^ 40):IntKind.i64.wrap ((i:Int)+1)=((i+1:Nat):Int):=by
 rw[wrap_i64 (by omega) (by omega)];simp
theorem tk {es:List (List UInt8 × T)} (hn:(es.map (·.1)).Nodup) (hb:es.length≤big) {R:LV→aa→Prop} (hR:∀ r s,dp s (vL (es.map (·.2))) r→R r s) :
  ∀ (d i:Nat) (f:Option Nat) (st:aa),i+d=es.length→bH .rw st f 1 i (dM ((es.map (·.2)).take i))→
   nD (osl f 1 i) (.imap (es.map fun e=>.str e.1) (dm es)) (sL (es.map (·.1))) (i64 es.length) (i64 i) R st:=by
 intro d
 induction d with
 | zero=>
  intro i f st hi ho
  apply tj
  have:¬ ((i:Int)<es.length):=by omega
  simp only[pN,an,aO,ae,a7]
  refine ⟨fun h=>absurd h this,fun _=>hR _ _ ?_⟩
  have hi':i=es.length:=by omega
  subst hi'
  rw[List.take_of_length_le (by simp)] at ho
  have:=eY ho rfl (bq st ff)
  show dp st (.isl _ (es.map (·.2)).length none) _
  rw[aU];exact this
 | succ d ih=>
  intro i f st hi ho
  apply tj
  have hlt:i<es.length:=by omega
  obtain ⟨⟨k,t⟩,hk⟩:∃ e,es[i]=e:=⟨_,rfl⟩
  have hget:es[i]?=some (k,t):=by rw[bh hlt,hk]
  have hks:((es.map (·.1)).map LV.str)[i*1]?=some (.str k):=by simp[hget]
  have hlt':i<(es.map (·.1)).length:=by simpa using hlt
  have hfind:T.find es k=some t:=T.ij hn (cA hget)
  have e1:bo 1 (sL (es.map (·.1))) (i64 i)=some (.iptr ((es.map (·.1)).map .str) (i*1)):=dd hlt'
  simp only[pN,an,aO,ae,a7,e1,cm,hks,pQ hn,hfind,Option.getD_some,Bool.false_eq_true,if_false]
  refine ⟨fun _=>?_,fun h=>absurd (by omega:(i:Int)<es.length) h⟩
  have e2:aN (fun i=>some (i*1,1)) (List.replicate 1 [LV.nili]).flatten [(0,vT t)]=some [lvT t]:=rfl
  rw[e2]
  simp only[cj,aj]
  have ho1:=ho.fr (st':=st++[.cells .rw [lvT t]]) (S:=fun _=>False) Fr.app (fun _ _ h=>h)
  obtain ⟨st2,f2,h1,h2,-⟩:=ho1.append (x:=.sl st.length 0 1 (.ex 1)) (k:=1) (new:=[lvT t]) (bytes:=16) (by simp[fF]) (by omega) rfl (by simp[gr]) (dN (by unfold big at hb;omega) (by omega))
  rw[h1]
  simp only[aj,bx,ae,bO (show i<2 ^ 40 by unfold big at hb;omega)]
  refine ih (i+1) f2 st2 (by omega) ?_
  have e3:(es.map (·.2)).take (i+1)=(es.map (·.2)).take i++[t]:=by
   rw[List.take_add_one];simp[hget]
  rw[e3,rF]
  exact h2
theorem vG {es:List (List UInt8 × T)} (hn:(es.map (·.1)).Nodup) (hb:es.length≤big) (hk:Pu Tryz.prog 49 [vT (.map es)] (sL (es.map (·.1)))):Pu Tryz.prog 101 [vT (.map es)] (vL (es.map (·.2))):=by
 refine Pu.of (Ax _ ?_) (by simp[LV.au,LV.plain]) (by simp[LV.plain])
 show ag Tryz.prog 49 [vT (.map es)] _ _
 refine hk.call ?_
 show nD (osl none 1 0) (.imap (es.map fun e=>.str e.1) (dm es)) (sL (es.map (·.1))) (i64 (es.map (·.1)).length) (i64 0) _ _
 rw[aU]
 exact tk hn hb (fun r s h=>h) es.length 0 none _ (by omega) bH.nil
theorem tl {l:List T} (hb:l.length≤big):Pu Tryz.prog 101 [vT (.list l)] (vL l):=by
 refine Pu.of (Ax _ ?_) (by simp[LV.au,LV.plain]) (by simp[LV.plain])
 show ag Tryz.prog 159 [vL l] _ _
 exact (wY kj hb ff).call (bk (v:=vL l) _ (by simp[LV.plain]))
abbrev mE (es:List (List UInt8 × T)):List (LV × LV):=es.map fun e=>(.str e.1,vT e.2)
theorem yI {es:List (List UInt8 × T)} {k:List UInt8}:cS (.str k) (mE es)=some ((T.find es k).map vT):=by
 induction es with
 | nil=>rfl
 | cons e es ih=>
  simp only[mE,List.map_cons,cS,fo]
  by_cases h:k=e.1
  ·subst h;simp[T.find]
  ·have h1:(k==e.1)=false:=by simpa using h
   have h2:(e.1==k)=false:=by simpa using Ne.symm h
   simp only[h1]
   rw[show cS (.str k) (es.map fun e=>(LV.str e.1,vT e.2))=some ((T.find es k).map vT) from ih]
   simp only[T.find,List.find?_cons,h2]
theorem AH {es:List (List UInt8 × T)} {k:List UInt8} {v:LV} (h:k ∉ es.map (·.1)):nX (.str k) v (mE es)=some (mE es++[(.str k,v)]):=by
 induction es with
 | nil=>rfl
 | cons e es ih=>
  simp only[List.map_cons,List.mem_cons,not_or] at h
  have h1:(k==e.1)=false:=by simpa using h.1
  simp only[mE,List.map_cons,nX,fo,h1]
  rw[show nX (.str k) v (es.map fun e=>(LV.str e.1,vT e.2))=some (mE es++[(.str k,v)]) from ih h.2]
  rfl
theorem tm {es:List (List UInt8 × T)} (hn:(es.map (·.1)).Nodup):(cu (es.map fun e=>LV.str e.1) []).isSome=true:=by
 have:=ik (ss:=es.map (·.1)) (seen:=[]) hn (by simp)
 rw[List.map_map] at this
 simp only[Function.comp_def] at this
 rw[this];rfl
theorem wZ {st:aa} {o:Nat} {es es':List (List UInt8 × T)} {bs:List Nat} {n:Nat} (h:st[o]?=some (.map .rw (mE es') bs n)) (hp:es.Perm es') (hn:(es.map (·.1)).Nodup) :
  dp st (vT (.map es)) (.agg [.iface 173 (.map o)]):=by
 refine ⟨_,rfl,_,_,rfl,⟨_,rfl,.inl ⟨o,.rw,mE es',bs,n,mE es,rfl,h,rfl,hp.map _,tm hn,?_,?_⟩⟩,rfl⟩
 ·simp
 ·rw[ke]
  have:(mE es).map (·.2)=es.map fun e=>vT e.2:=by simp
  rw[this]
  exact bq _ (bF fun _ _=>bG)
theorem xa {es:List (List UInt8 × T)} (hn:(es.map (·.1)).Nodup) (hb:es.length≤big) {R:LV→aa→Prop} {r o:Nat} (hro:r≠o) (hR:∀ s,dp s (.tup [vT (.map es),i64 0]) (.tup [.agg [.iface 173 (.map o)],i64 0])→R (.tup [.agg [.iface 173 (.map o)],i64 0]) s) :
  ∀ (d i:Nat) (bs:List Nat) (n:Nat) (st:aa),i+d=es.length→st[r]?=some (.cells .rw [.nili])→st[o]?=some (.map .rw (mE (es.take i)) bs n)→
   uz (vL (es.map (·.2))) (.ptr r 0) (.map o) (sL (es.map (·.1))) (i64 es.length) (i64 i) R st:=by
 intro d
 induction d with
 | zero=>
  intro i bs n st hi hr ho
  apply zt
  have hi':i=es.length:=by omega
  subst hi'
  have:¬ ((es.length:Int)<es.length):=by omega
  simp only[uF,an,aO,ae,a7]
  refine ⟨fun h=>absurd h this,fun _=>?_⟩
  rw[List.take_length] at ho
  have e1:bK (aN (aR [(0,1)]) [LV.nili] [(0,LV.iface 173 (.map o))])=some (.agg [.iface 173 (.map o)]):=rfl
  have hlt:=bR hr
  have e2:stV st 1 (.ptr r 0) (.agg [.iface 173 (.map o)])=some (st.set r (.cells .rw [.iface 173 (.map o)])):=eg (vs:=[.iface 173 (.map o)]) hr (by simp) rfl rfl
  have e3:ldA (st.set r (.cells .rw [.iface 173 (.map o)])) (.ptr r 0) 1=some (.agg [.iface 173 (.map o)]):=dJ (bQ hr) (by simp)
  simp only[e1,ae,e2,aB,aj,e3]
  have ho':(st.set r (.cells .rw [.iface 173 (.map o)]))[o]?=some (.map .rw (mE es) bs n):=by rw[bn hro];exact ho
  exact hR _ ⟨_,rfl,_,_,rfl,wZ ho' (.refl _) hn,_,_,rfl,rfl,rfl⟩
 | succ d ih=>
  intro i bs n st hi hr ho
  apply zt
  have hlt:i<es.length:=by omega
  obtain ⟨⟨k,t⟩,hk⟩:∃ e,es[i]=e:=⟨_,rfl⟩
  have hget:es[i]?=some (k,t):=by rw[bh hlt,hk]
  have hks:((es.map (·.1)).map LV.str)[i*1]?=some (.str k):=by simp[hget]
  have hvs:(dM (es.map (·.2)))[i*1]?=some (lvT t):=by rw[nF];simp[hget]
  have hlt':i<(es.map (·.1)).length:=by simpa using hlt
  have hlt2:i<(es.map (·.2)).length:=by simpa using hlt
  have e0:bo 1 (sL (es.map (·.1))) (i64 i)=some (.iptr ((es.map (·.1)).map .str) (i*1)):=dd hlt'
  have e1:bo 1 (vL (es.map (·.2))) (i64 i)=some (.iptr (dM (es.map (·.2))) (i*1)):=dd hlt2
  have hnk:k ∉ (es.take i).map (·.1):=by
   have hsp:es=es.take i++(k,t)::es.drop (i+1):=by
    conv=>lhs;rw[← List.take_append_drop i es]
    rw[gH hlt,hk]
   rw[hsp] at hn
   simp only[List.map_append,List.map_cons] at hn
   have h1:=(List.nodup_append.1 hn).2.2
   exact fun hc=>h1 k hc k (by simp) rfl
  have hf:T.find (es.take i) k=none:=T.iL.2 hnk
  have e2:kH st true (some (.agg [.nili])) (.map o) (.str k) true=some (.tup [vT .null,.bool false]):=by
   show tY _ _ _ _ _ _=_
   simp only[tY,plainKey,if_true,mapOf,ho,yI,hf,Option.map_none]
   rfl
  have e3:stV (st++[ah.cells .rw [LV.nili]]) 1 (.ptr st.length 0) (vT .null)=some (st++[ah.cells .rw [LV.nili]]):=by
   have h:=eg (st:=st++[ah.cells .rw [LV.nili]]) (o:=st.length) (k:=0) (m:=.rw) (l:=[LV.nili]) (vs:=[LV.nili]) (n:=1) aH (by simp) rfl rfl
   refine h.trans ?_
   congr 1
   simp[bz]
  have hvl:i*1+1≤(dM (es.map (·.2))).length:=by rw[kj];omega
  have e4:ldA (st++[ah.cells .rw [LV.nili]]) (.iptr (dM (es.map (·.2))) (i*1)) 1=some (vT t):=by
   rw[ie hvl]
   congr 2
   rw[List.take_one,List.head?_drop,hvs]
   rfl
  have ho1:(st++[ah.cells .rw [LV.nili]])[o]?=some (.map .rw (mE (es.take i)) bs n):=cb ho
  have hnx:mE (es.take (i+1))=mE (es.take i)++[(.str k,vT t)]:=by
   rw[List.take_add_one];simp[mE,hget]
  have e5:pg (st++[ah.cells .rw [LV.nili]]) true (.map o) (.str k) (vT t)=some ((st++[ah.cells .rw [LV.nili]]).set o (.map .rw (mE (es.take (i+1))) (bs++[n]) (n+1))):=by
   simp only[pg,plainKey,if_true,ho1,AH hnk]
   rw[hnx]
   congr 2
   unfold jI
   rw[if_neg (by simp)]
  simp only[uF,an,aO,ae,a7,e0,cm,hks,e2,aV,bB,bJ,dc,e3,aB,aj,ax,e1,e4,e5,bx,bO (show i<2 ^ 40 by unfold big at hb;omega)]
  refine ⟨fun _=>?_,fun h=>absurd (by omega:(i:Int)<es.length) h⟩
  refine ih (i+1) (bs++[n]) (n+1) _ (by omega) ?_ ?_
  ·rw[bn (Ne.symm hro)];exact cb hr
  ·exact bQ ho1
theorem AI {es:List (List UInt8 × T)} (hn:(es.map (·.1)).Nodup) (hb:es.length≤big):Pu Tryz.prog 72 [sL (es.map (·.1)),vL (es.map (·.2))] (.tup [vT (.map es),i64 0]):=by
 refine Pu.of (c72 _ _ ?_) (by simp[LV.au,LV.plain];exact bF fun _ _=>rfl) (by simp[LV.plain,LV.au])
 have e:(((es.map (·.1)).length:Int) != ((es.map (·.2)).length:Int))=false:=by simp
 simp only[w72,dc,aP,ae,an,cU,e,ax,wv]
 rw[aU]
 exact xa hn hb (by decide) (fun s h=>h) es.length 0 [] 0 _ (by omega) rfl rfl
end Go.Proofs.YtknegckgmklnhaaGreatDoor
