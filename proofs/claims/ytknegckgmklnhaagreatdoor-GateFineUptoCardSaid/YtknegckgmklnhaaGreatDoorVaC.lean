/- Parts of the proof. -/
import Derived.Test.YtknegckgmklnhaaGreatDoorVaW
namespace Go.Proofs.YtknegckgmklnhaaGreatDoor
open Go Go.CP
set_option maxRecDepth 100000
def CZ (x1 x2 x3 x4 x5 x6 x7:LV) (R:LV.RT) (st:aa):Prop:=LT Tryz.prog [.cell 2 49] (bP Tryz.f27 2) R (.aN::x1::x2::x3::x4::x5::x6::x7::(LV.jk 153 [])) st
def lr (x1 x2 x3 x4 x5 x6 x7:LV) (R:LV.RT) (st:aa):Prop:=LT Tryz.prog [.cell 2 49] (bP Tryz.f27 5) R (.aN::x1::x2::x3::x4::x5::x6::x7::(LV.jk 153 [])) st
def yJ (x1 x2 x3 x4 x5 x6 x7:LV) (R:LV.RT) (st:aa):Prop:=LT Tryz.prog [.cell 2 49] (bP Tryz.f27 8) R (.aN::x1::x2::x3::x4::x5::x6::x7::(LV.jk 153 [])) st
def w27 (a0:LV) (R:LV.RT) (st:aa):Prop:=
 bd2 (b8 st a0) fun v0 st1=>nw st1 [i64 0,LV.bool false,i64 0,i64 0,LV.str [],LV.nils,LV.nils] fun v2 st3=>bd (ad 0 v0) fun v4=>bd (ld1 st3 v4) fun v5=>bd
 (ak BinOp.eql v5 (i64 1)) fun v6=>al v6 (bd (aL (ao (ay [(0,1),(1,1),(2,1),(3,1),(4,1),(5,1),(6,1)]) [i64 0,LV.bool false,i64 0,LV.int
 IntKind.i64 0,LV.str [],LV.nils,LV.nils] [(0,i64 1)])) fun v7=>bd2 (lmk (stV st3 7 v2 v7)) fun _v8 st9=>bd (ldA st9 v2 7) fun v10=>R v10 st9) (bd (ak BinOp.eql v5 (i64 2)) fun
 v11=>al v11 (bd (ad 1 v0) fun v12=>bd (ld1 st3 v12) fun v13=>bd (aL (ao (ay [(0,1),(1,1),(2,1),(3,1),(4,1),(5,1),(6,1)]) [i64 0,LV.bool false,i64 0,
 i64 0,LV.str [],LV.nils,LV.nils] [(0,i64 2),(1,v13)])) fun v14=>bd2 (lmk (stV st3 7 v2 v14)) fun _v15 st16=>bd (ldA st16 v2 7) fun v17=>R v17 st16) (bd (ak BinOp.eql v5 (LV.int
 IntKind.i64 3)) fun v18=>al v18 (bd (ad 2 v0) fun v19=>bd (ld1 st3 v19) fun v20=>bd (aL (ao (ay [(0,1),(1,1),(2,1),(3,1),(4,1),(5,1),(6,1)]) [i64 0,LV.bool false,LV.int
 IntKind.i64 0,i64 0,LV.str [],LV.nils,LV.nils] [(0,i64 3),(2,v20)])) fun v21=>bd2 (lmk (stV st3 7 v2 v21)) fun _v22 st23=>bd (ldA st23 v2 7) fun v24=>R v24 st23) (bd (ak
 BinOp.eql v5 (i64 4)) fun v25=>al v25 (bd (ad 2 v0) fun v26=>bd (ld1 st3 v26) fun v27=>bd (gI [v27,i64 (-9007199254740992)]) fun v28=>bd (ke [v28,LV.int IntKind.i64
 9007199254740992]) fun v29=>bd (ad 3 v0) fun v30=>bd (ld1 st3 v30) fun v31=>bd (gI [v31,i64 (-9007199254740992)]) fun v32=>bd (ke [v32,i64 9007199254740992]) fun v33=>bd
 (aL (ao (ay [(0,1),(1,1),(2,1),(3,1),(4,1),(5,1),(6,1)]) [i64 0,LV.bool false,i64 0,i64 0,LV.str [],LV.nils,LV.nils] [(0,i64 4),
 (2,v29),(3,v33)])) fun v34=>bd2 (lmk (stV st3 7 v2 v34)) fun _v35 st36=>bd (ldA st36 v2 7) fun v37=>R v37 st36) (bd (ak BinOp.eql v5 (i64 5)) fun v38=>al v38 (bd (ad 4 v0) fun v39=>bd
 (ld1 st3 v39) fun v40=>bd (aL (ao (ay [(0,1),(1,1),(2,1),(3,1),(4,1),(5,1),(6,1)]) [i64 0,LV.bool false,i64 0,i64 0,LV.str [],LV.nils,LV.nils]
 [(0,i64 5),(4,v40)])) fun v41=>bd2 (lmk (stV st3 7 v2 v41)) fun _v42 st43=>bd (ldA st43 v2 7) fun v44=>R v44 st43) (bd (ak BinOp.eql v5 (i64 6)) fun v45=>al v45 (bd (aL
 (ao (ay [(0,1),(1,1),(2,1),(3,1),(4,1),(5,1),(6,1)]) [i64 0,LV.bool false,i64 0,i64 0,LV.str [],LV.nils,LV.nils] [(0,i64 6)])) fun
 v46=>nw st3 [i64 0,LV.bool false,i64 0,i64 0,LV.str [],LV.nils,LV.nils] fun v47 st48=>bd2 (lmk (stV st48 7 v47 v46)) fun _v49 st50=>CZ v0 v2 v47 (LV.int
 IntKind.i64 0) (LV.tup []) (LV.tup []) (LV.tup []) R st50) (bd (ak BinOp.eql v5 (i64 7)) fun v51=>al v51 (bd (aL (ao (ay [(0,1),(1,1),(2,1),(3,1),(4,1),(5,1),(6,1)]) [LV.int
 IntKind.i64 0,LV.bool false,i64 0,i64 0,LV.str [],LV.nils,LV.nils] [(0,i64 7)])) fun v52=>nw st3 [i64 0,LV.bool false,i64 0,LV.int
 IntKind.i64 0,LV.str [],LV.nils,LV.nils] fun v53 st54=>bd2 (lmk (stV st54 7 v53 v52)) fun _v55 st56=>lr v0 v2 (LV.tup []) (LV.tup []) v53 (i64 0) (LV.tup []) R st56) (bd (aL (ao (ay
 [(0,1),(1,1),(2,1),(3,1),(4,1),(5,1),(6,1)]) [i64 0,LV.bool false,i64 0,i64 0,LV.str [],LV.nils,LV.nils] [])) fun v57=>bd2 (lmk (stV st3 7 v2 v57)) fun
 _v58 st59=>bd (ldA st59 v2 7) fun v60=>R v60 st59)))))))
theorem Ml (a0:LV) (R:LV.RT) (st:aa):cj Tryz.prog [.cell 2 49] R [0,8,9,10,11,12,13,14,15,16,17,18,19,20,21,22,23,24,25,26,27,28,29,30,31,32,33,34,35,36,37,38,39,40,41,42,43,44,45,46,47,48,49,50,51,52,53,54,55,56,57,58,59,60,61,62,63,64,65,66,67,68,69,70,71,72,73,74,75,76,77,78,79,80,81,82,83,84,85,86,87,88,89,90,91,92,93,94,95,96,97,98,99,100,101,102,103,104,105,106,107,108,109,110,111,112,113,114,115,116,117,118,119,120,121,122,123,124,125,126,127,128,129,130,131,132,133,134,135,136,137,138,139,140,141,142,143,144,145,146,147,148,149,150,151,152,153,154,155,156,157,158,159,160] [] 3000 [.code (ba Tryz.f27)] ([a0]++List.replicate (Tryz.f27.ntmps-1) aK) st=w27 a0 R st:=by kernel_rfl
theorem c27 (a0:LV) {R:LV.RT} {st:aa} (h:w27 a0 R st):LZ 27 [a0] st R:=
 ax.of aG Tryz.func27 (show Tryz.f27.body=some (ba Tryz.f27) by kernel_rfl) (by kernel_rfl) (show Tryz.f27.results.toList=[.cell 2 49] by kernel_rfl) (aQ aG 3000 (Eq.mpr (Ml a0 R st) h))
def C0 (x1 x2 x3 x4 x5 x6 x7:LV) (R:LV.RT) (st:aa):Prop:=
 bd (ad 5 x1) fun v0=>bd (ld1 st v0) fun v1=>bd (bo v1) fun v2=>bd (ak BinOp.lss x4 v2) fun v3=>al v3 (bd (ad 5 x3) fun v4=>bd (ld1 st v4) fun v5=>bd (ad 5 x1) fun v6=>bd (ld1 st v6) fun v7
 => bd (aR 7 v7 x4) fun v8=>bd (ldA st v8 7) fun v9=>LZ 27 [v9] st fun v10 st11=>ld1 st11 v4=some v5∧bd2 (aP st11 1 (ao (fun i=>some (i*7,7)) (List.replicate 1 [i64 0,
 LV.bool false,i64 0,i64 0,LV.str [],LV.nils,LV.nils]).flatten [(0,v10)])) fun v12 st13=>ld1 st13 v4=some v5∧bd2 (ar st13 7 96 Md.rw v5 v12) fun v14 st15=>bd (ad 5 x3)
 fun v16=>bd2 (lmk (stV st15 1 v16 v14)) fun _v17 st18=>bd (ak BinOp.add x4 (i64 1)) fun v19=>CZ x1 x2 x3 v19 x5 x6 x7 R st18) (bd (ldA st x3 7) fun v20=>bd2 (lmk (stV st 7 x2 v20)) fun _v21
 st22=>bd (ldA st22 x2 7) fun v23=>R v23 st22)
theorem GR (x1 x2 x3 x4 x5 x6 x7:LV) (R:LV.RT) (st:aa):cj Tryz.prog [.cell 2 49] R [0,8,9,10,11,12,13,14,15,16,17,18,19,20,21,22,23,24,25,26,27,28,29,30,31,32,33,34,35,36,37,38,39,40,41,42,43,44,45,46,47,48,49,50,51,52,53,54,55,56,57,58,59,60,61,62,63,64,65,66,67,68,69,70,71,72,73,74,75,76,77,78,79,80,81,82,83,84,85,86,87,88,89,90,91,92,93,94,95,96,97,98,99,100,101,102,103,104,105,106,107,108,109,110,111,112,113,114,115,116,117,118,119,120,121,122,123,124,125,126,127,128,129,130,131,132,133,134,135,136,137,138,139,140,141,142,143,144,145,146,147,148,149,150,151,152,153,154,155,156,157,158,159,160] [] 3000 (cV (bP Tryz.f27 2)) (.aN::x1::x2::x3::x4::x5::x6::x7::(LV.jk 153 [])) st=C0 x1 x2 x3 x4 x5 x6 x7 R st:=by kernel_rfl
theorem KH (x1 x2 x3 x4 x5 x6 x7:LV) {R:LV.RT} {st:aa} (h:C0 x1 x2 x3 x4 x5 x6 x7 R st):CZ x1 x2 x3 x4 x5 x6 x7 R st:=
 LT.at aG 3000 (Eq.mpr (GR x1 x2 x3 x4 x5 x6 x7 R st) h)
def C1 (x1 x2 x3 x4 x5 x6 _x7:LV) (R:LV.RT) (st:aa):Prop:=
 bd (ad 5 x1) fun v0=>bd (ld1 st v0) fun v1=>bd (bo v1) fun v2=>bd (ak BinOp.lss x6 v2) fun v3=>al v3 (bd (ad 6 x1) fun v4=>bd (ld1 st v4) fun v5=>bd (bo v5) fun v6=>bd (ak BinOp.lss x6 v6)
 fun v7=>al v7 (yJ x1 x2 x3 x4 x5 x6 (i64 0) R st) (bd (ldA st x5 7) fun v8=>bd2 (lmk (stV st 7 x2 v8)) fun _v9 st10=>bd (ldA st10 x2 7) fun v11=>R v11 st10)) (bd (ldA st x5 7) fun v12=>bd2
 (lmk (stV st 7 x2 v12)) fun _v13 st14=>bd (ldA st14 x2 7) fun v15=>R v15 st14)
theorem GS (x1 x2 x3 x4 x5 x6 x7:LV) (R:LV.RT) (st:aa):cj Tryz.prog [.cell 2 49] R [0,8,9,10,11,12,13,14,15,16,17,18,19,20,21,22,23,24,25,26,27,28,29,30,31,32,33,34,35,36,37,38,39,40,41,42,43,44,45,46,47,48,49,50,51,52,53,54,55,56,57,58,59,60,61,62,63,64,65,66,67,68,69,70,71,72,73,74,75,76,77,78,79,80,81,82,83,84,85,86,87,88,89,90,91,92,93,94,95,96,97,98,99,100,101,102,103,104,105,106,107,108,109,110,111,112,113,114,115,116,117,118,119,120,121,122,123,124,125,126,127,128,129,130,131,132,133,134,135,136,137,138,139,140,141,142,143,144,145,146,147,148,149,150,151,152,153,154,155,156,157,158,159,160] [] 3000 (cV (bP Tryz.f27 5)) (.aN::x1::x2::x3::x4::x5::x6::x7::(LV.jk 153 [])) st=C1 x1 x2 x3 x4 x5 x6 x7 R st:=by kernel_rfl
theorem KI (x1 x2 x3 x4 x5 x6 x7:LV) {R:LV.RT} {st:aa} (h:C1 x1 x2 x3 x4 x5 x6 x7 R st):lr x1 x2 x3 x4 x5 x6 x7 R st:=
 LT.at aG 3000 (Eq.mpr (GS x1 x2 x3 x4 x5 x6 x7 R st) h)
def GU (x1 x2 x3 x4 x5 x6 x7:LV) (R:LV.RT) (st:aa):Prop:=
 bd (ad 6 x5) fun v0=>bd (ld1 st v0) fun v1=>bd (bo v1) fun v2=>bd (ak BinOp.lss x7 v2) fun v3=>al v3 (bd (ad 6 x5) fun v4=>bd (ld1 st v4) fun v5=>bd (aR 1 v5 x7) fun v6=>bd (ld1 st v6) fun v7
 => bd (ad 6 x1) fun v8=>bd (ld1 st v8) fun v9=>bd (aR 1 v9 x6) fun v10=>bd (ld1 st v10) fun v11=>bd (bG BinOp.lss v7 v11) fun v12=>al v12 (bd (ak BinOp.add x7 (i64 1)) fun v13=>yJ
 x1 x2 x3 x4 x5 x6 v13 R st) (bd (ad 6 x5) fun v14=>bd (ld1 st v14) fun v15=>bd (bo v15) fun v16=>bd (ak BinOp.lss x7 v16) fun v17=>al v17 (bd (ad 6 x5) fun v18=>bd (ld1 st v18) fun v19=>bd (aR
 1 v19 x7) fun v20=>bd (ld1 st v20) fun v21=>bd (ad 6 x1) fun v22=>bd (ld1 st v22) fun v23=>bd (aR 1 v23 x6) fun v24=>bd (ld1 st v24) fun v25=>bd (bG BinOp.eql v21 v25) fun v26=>al v26 (bd (ak
 BinOp.add x6 (i64 1)) fun v27=>lr x1 x2 x3 x4 x5 v27 x7 R st) (bd (ad 6 x5) fun v28=>bd (ld1 st v28) fun v29=>bd (ob3 none (some x7) none fun l h m=>aO st 1 v29 l h m) fun v30=>bd
 (ad 6 x1) fun v31=>bd (ld1 st v31) fun v32=>bd (aR 1 v32 x6) fun v33=>bd (ld1 st v33) fun v34=>(bd2 (aP st 1 (ao (fun i=>some (i*1,1)) (List.replicate 1 [LV.str []]).flatten [(0,v34)])) fun v35
 st36=>(ob3 none (some x7) none fun l h m=>aO st36 1 v29 l h m)=some v30∧ld1 st36 v28=some v29∧bd2 (aP st36 0 (ao (fun i=>some (i*1,1)) (List.replicate 0 [LV.str []]).flatten [])) fun v37 st38
 => ld1 st38 v33=some v34∧ld1 st38 v31=some v32∧(ob3 none (some x7) none fun l h m=>aO st38 1 v29 l h m)=some v30∧ld1 st38 v28=some v29∧bd2 (ar st38 1 16 Md.rw v37 v30) fun v39 st40=>ld1 st40
 v33=some v34∧ld1 st40 v31=some v32∧bd2 (ar st40 1 16 Md.rw v39 v35) fun v41 st42=>bd (ad 5 x5) fun v43=>bd (ld1 st42 v43) fun v44=>bd (ob3 none (some x7) none fun l h m=>aO st42 7 v44 l h m)
 fun v45=>bd (ad 5 x1) fun v46=>bd (ld1 st42 v46) fun v47=>bd (aR 7 v47 x6) fun v48=>bd (ldA st42 v48 7) fun v49=>bd2 (aP st42 0 (ao (fun i=>some (i*7,7)) (List.replicate 0 [i64 0,
 LV.bool false,i64 0,i64 0,LV.str [],LV.nils,LV.nils]).flatten [])) fun v50 st51=>ldA st51 v48 7=some v49∧ld1 st51 v46=some v47∧(ob3 none (some x7) none fun l h m=>aO
 st51 7 v44 l h m)=some v45∧ld1 st51 v43=some v44∧bd2 (ar st51 7 96 Md.rw v50 v45) fun v52 st53=>ldA st53 v48 7=some v49∧ld1 st53 v46=some v47∧LZ 27 [v49] st53 fun v54 st55=>bd2
 (aP st55 1 (ao (fun i=>some (i*7,7)) (List.replicate 1 [i64 0,LV.bool false,i64 0,i64 0,LV.str [],LV.nils,LV.nils]).flatten [(0,v54)])) fun v56 st57=>bd2
 (ar st57 7 96 Md.rw v52 v56) fun v58 st59=>bd (ad 6 x5) fun v60=>bd (ld1 st59 v60) fun v61=>bd (ob3 (some x7) none none fun l h m=>aO st59 1 v61 l h m) fun v62=>bd2 (ar st59 1 16 Md.rw v41 v62)
 fun v63 st64=>bd (ad 6 x5) fun v65=>bd2 (lmk (stV st64 1 v65 v63)) fun _v66 st67=>bd (ad 5 x5) fun v68=>bd (ld1 st67 v68) fun v69=>bd (ob3 (some x7) none none fun l h m=>aO st67 7 v69 l h m) fun v70
 => bd2 (ar st67 7 96 Md.rw v58 v70) fun v71 st72=>bd (ad 5 x5) fun v73=>bd2 (lmk (stV st72 1 v73 v71)) fun _v74 st75=>bd (ak BinOp.add x6 (i64 1)) fun v76=>LT Tryz.prog [ResultVar.cell 2
 49] (bP Tryz.f27 5) R (.aN::x1::x2::x3::x4::x5::v76::x7::(LV.jk 153 [])) st75)∧bd2 (aP st 0 (ao (fun i=>some (i*1,1)) (List.replicate 0
 [LV.str []]).flatten [])) fun v77 st78=>ld1 st78 v33=some v34∧ld1 st78 v31=some v32∧(ob3 none (some x7) none fun l h m=>aO st78 1 v29 l h m)=some v30∧ld1 st78 v28=some v29∧(bd2 (aP st78 1
 (ao (fun i=>some (i*1,1)) (List.replicate 1 [LV.str []]).flatten [(0,v34)])) fun v79 st80=>(ob3 none (some x7) none fun l h m=>aO st80 1 v29 l h m)=some v30∧ld1 st80 v28=some v29∧bd2 (ar
 st80 1 16 Md.rw v77 v30) fun v81 st82=>ld1 st82 v33=some v34∧ld1 st82 v31=some v32∧bd2 (ar st82 1 16 Md.rw v81 v79) fun v83 st84=>bd (ad 5 x5) fun v85=>bd (ld1 st84 v85) fun v86=>bd (ob3 none
 (some x7) none fun l h m=>aO st84 7 v86 l h m) fun v87=>bd (ad 5 x1) fun v88=>bd (ld1 st84 v88) fun v89=>bd (aR 7 v89 x6) fun v90=>bd (ldA st84 v90 7) fun v91=>bd2 (aP st84 0 (ao (fun i=>some
 (i*7,7)) (List.replicate 0 [i64 0,LV.bool false,i64 0,i64 0,LV.str [],LV.nils,LV.nils]).flatten [])) fun v92 st93=>ldA st93 v90 7=some v91∧ld1 st93 v88=some
 v89∧(ob3 none (some x7) none fun l h m=>aO st93 7 v86 l h m)=some v87∧ld1 st93 v85=some v86∧bd2 (ar st93 7 96 Md.rw v92 v87) fun v94 st95=>ldA st95 v90 7=some v91∧ld1 st95 v88=some v89∧
 LZ 27 [v91] st95 fun v96 st97=>bd2 (aP st97 1 (ao (fun i=>some (i*7,7)) (List.replicate 1 [i64 0,LV.bool false,i64 0,i64 0,LV.str [],LV.nils,
 LV.nils]).flatten [(0,v96)])) fun v98 st99=>bd2 (ar st99 7 96 Md.rw v94 v98) fun v100 st101=>bd (ad 6 x5) fun v102=>bd (ld1 st101 v102) fun v103=>bd (ob3 (some x7) none none fun l h m=>aO st101 1
 v103 l h m) fun v104=>bd2 (ar st101 1 16 Md.rw v83 v104) fun v105 st106=>bd (ad 6 x5) fun v107=>bd2 (lmk (stV st106 1 v107 v105)) fun _v108 st109=>bd (ad 5 x5) fun v110=>bd (ld1 st109 v110) fun v111
 => bd (ob3 (some x7) none none fun l h m=>aO st109 7 v111 l h m) fun v112=>bd2 (ar st109 7 96 Md.rw v100 v112) fun v113 st114=>bd (ad 5 x5) fun v115=>bd2 (lmk (stV st114 1 v115 v113)) fun _v116 st117
 => bd (ak BinOp.add x6 (i64 1)) fun v118=>LT Tryz.prog [ResultVar.cell 2 49] (bP Tryz.f27 5) R (.aN::x1::x2::x3::x4::x5::v118::x7::(LV.jk 153 [])) st117)∧bd2 (ar st78 1 16 Md.rw v77 v30) fun v119 st120=>ld1 st120 v33=some v34∧ld1 st120 v31=some v32∧bd2 (aP st120 1 (ao (fun i=>some (i*1,1)) (List.replicate 1 [LV.str
 []]).flatten [(0,v34)])) fun v121 st122=>(ob3 none (some x7) none fun l h m=>aO st122 1 v29 l h m)=some v30∧ld1 st122 v28=some v29∧bd2 (ar st122 1 16 Md.rw v119 v121) fun v123 st124=>bd (ad 5
 x5) fun v125=>bd (ld1 st124 v125) fun v126=>bd (ob3 none (some x7) none fun l h m=>aO st124 7 v126 l h m) fun v127=>bd (ad 5 x1) fun v128=>bd (ld1 st124 v128) fun v129=>bd (aR 7 v129 x6) fun v130=>bd (ldA st124 v130 7) fun v131=>bd2 (aP st124 0 (ao (fun i=>some (i*7,7)) (List.replicate 0 [i64 0,LV.bool false,i64 0,i64 0,LV.str [],LV.nils,
 LV.nils]).flatten [])) fun v132 st133=>ldA st133 v130 7=some v131∧ld1 st133 v128=some v129∧(ob3 none (some x7) none fun l h m=>aO st133 7 v126 l h m)=some v127∧ld1 st133 v125=some v126∧bd2
 (ar st133 7 96 Md.rw v132 v127) fun v134 st135=>ldA st135 v130 7=some v131∧ld1 st135 v128=some v129∧LZ 27 [v131] st135 fun v136 st137=>bd2 (aP st137 1 (ao (fun i=>some (i*7,7))
 (List.replicate 1 [i64 0,LV.bool false,i64 0,i64 0,LV.str [],LV.nils,LV.nils]).flatten [(0,v136)])) fun v138 st139=>bd2 (ar st139 7 96 Md.rw v134 v138) fun v140
 st141=>bd (ad 6 x5) fun v142=>bd (ld1 st141 v142) fun v143=>bd (ob3 (some x7) none none fun l h m=>aO st141 1 v143 l h m) fun v144=>bd2 (ar st141 1 16 Md.rw v123 v144) fun v145 st146=>bd (ad 6
 x5) fun v147=>bd2 (lmk (stV st146 1 v147 v145)) fun _v148 st149=>bd (ad 5 x5) fun v150=>bd (ld1 st149 v150) fun v151=>bd (ob3 (some x7) none none fun l h m=>aO st149 7 v151 l h m) fun v152=>bd2
 (ar st149 7 96 Md.rw v140 v152) fun v153 st154=>bd (ad 5 x5) fun v155=>bd2 (lmk (stV st154 1 v155 v153)) fun _v156 st157=>bd (ak BinOp.add x6 (i64 1)) fun v158=>LT Tryz.prog
 [ResultVar.cell 2 49] (bP Tryz.f27 5) R (.aN::x1::x2::x3::x4::x5::v158::x7::(LV.jk 153 [])) st157)) (bd (ad 6 x5) fun v159=>bd (ld1 st v159) fun
 v160=>bd (ob3 none (some x7) none fun l h m=>aO st 1 v160 l h m) fun v161=>bd (ad 6 x1) fun v162=>bd (ld1 st v162) fun v163=>bd (aR 1 v163 x6) fun v164=>bd (ld1 st v164) fun v165=>(bd2 (aP st 1
 (ao (fun i=>some (i*1,1)) (List.replicate 1 [LV.str []]).flatten [(0,v165)])) fun v166 st167=>(ob3 none (some x7) none fun l h m=>aO st167 1 v160 l h m)=some v161∧ld1 st167 v159=some v160∧bd2
 (aP st167 0 (ao (fun i=>some (i*1,1)) (List.replicate 0 [LV.str []]).flatten [])) fun v168 st169=>ld1 st169 v164=some v165∧ld1 st169 v162=some v163∧(ob3 none (some x7) none fun l h m=>aO st169
 1 v160 l h m)=some v161∧ld1 st169 v159=some v160∧bd2 (ar st169 1 16 Md.rw v168 v161) fun v170 st171=>ld1 st171 v164=some v165∧ld1 st171 v162=some v163∧bd2 (ar st171 1 16 Md.rw v170 v166) fun
 v172 st173=>bd (ad 5 x5) fun v174=>bd (ld1 st173 v174) fun v175=>bd (ob3 none (some x7) none fun l h m=>aO st173 7 v175 l h m) fun v176=>bd (ad 5 x1) fun v177=>bd (ld1 st173 v177) fun v178=>bd
 (aR 7 v178 x6) fun v179=>bd (ldA st173 v179 7) fun v180=>bd2 (aP st173 0 (ao (fun i=>some (i*7,7)) (List.replicate 0 [i64 0,LV.bool false,i64 0,i64 0,
 LV.str [],LV.nils,LV.nils]).flatten [])) fun v181 st182=>ldA st182 v179 7=some v180∧ld1 st182 v177=some v178∧(ob3 none (some x7) none fun l h m=>aO st182 7 v175 l h m)=some v176∧ld1 st182 v174 =
 some v175∧bd2 (ar st182 7 96 Md.rw v181 v176) fun v183 st184=>ldA st184 v179 7=some v180∧ld1 st184 v177=some v178∧LZ 27 [v180] st184 fun v185 st186=>bd2 (aP st186 1 (ao (fun i=>some (i*7,7)) (List.replicate 1 [i64 0,LV.bool false,i64 0,i64 0,LV.str [],LV.nils,LV.nils]).flatten [(0,v185)])) fun v187 st188=>bd2 (ar st188 7 96 Md.rw
 v183 v187) fun v189 st190=>bd (ad 6 x5) fun v191=>bd (ld1 st190 v191) fun v192=>bd (ob3 (some x7) none none fun l h m=>aO st190 1 v192 l h m) fun v193=>bd2 (ar st190 1 16 Md.rw v172 v193) fun v194
 st195=>bd (ad 6 x5) fun v196=>bd2 (lmk (stV st195 1 v196 v194)) fun _v197 st198=>bd (ad 5 x5) fun v199=>bd (ld1 st198 v199) fun v200=>bd (ob3 (some x7) none none fun l h m=>aO st198 7 v200 l h m)
 fun v201=>bd2 (ar st198 7 96 Md.rw v189 v201) fun v202 st203=>bd (ad 5 x5) fun v204=>bd2 (lmk (stV st203 1 v204 v202)) fun _v205 st206=>bd (ak BinOp.add x6 (i64 1)) fun v207=>LT
 Tryz.prog [ResultVar.cell 2 49] (bP Tryz.f27 5) R (.aN::x1::x2::x3::x4::x5::v207::x7::(LV.jk 153 [])) st206)∧bd2 (aP st 0 (ao (fun i=>some (i
 * 1,1)) (List.replicate 0 [LV.str []]).flatten [])) fun v208 st209=>ld1 st209 v164=some v165∧ld1 st209 v162=some v163∧(ob3 none (some x7) none fun l h m=>aO st209 1 v160 l h m)=some v161∧ld1 st209
 v159=some v160∧(bd2 (aP st209 1 (ao (fun i=>some (i*1,1)) (List.replicate 1 [LV.str []]).flatten [(0,v165)])) fun v210 st211=>(ob3 none (some x7) none fun l h m=>aO st211 1 v160 l h m)=some v161
 ∧ ld1 st211 v159=some v160∧bd2 (ar st211 1 16 Md.rw v208 v161) fun v212 st213=>ld1 st213 v164=some v165∧ld1 st213 v162=some v163∧bd2 (ar st213 1 16 Md.rw v212 v210) fun v214 st215=>bd (ad 5
 x5) fun v216=>bd (ld1 st215 v216) fun v217=>bd (ob3 none (some x7) none fun l h m=>aO st215 7 v217 l h m) fun v218=>bd (ad 5 x1) fun v219=>bd (ld1 st215 v219) fun v220=>bd (aR 7 v220 x6) fun v221=>bd (ldA st215 v221 7) fun v222=>bd2 (aP st215 0 (ao (fun i=>some (i*7,7)) (List.replicate 0 [i64 0,LV.bool false,i64 0,i64 0,LV.str [],LV.nils,
 LV.nils]).flatten [])) fun v223 st224=>ldA st224 v221 7=some v222∧ld1 st224 v219=some v220∧(ob3 none (some x7) none fun l h m=>aO st224 7 v217 l h m)=some v218∧ld1 st224 v216=some v217∧bd2
 (ar st224 7 96 Md.rw v223 v218) fun v225 st226=>ldA st226 v221 7=some v222∧ld1 st226 v219=some v220∧LZ 27 [v222] st226 fun v227 st228=>bd2 (aP st228 1 (ao (fun i=>some (i*7,7))
 (List.replicate 1 [i64 0,LV.bool false,i64 0,i64 0,LV.str [],LV.nils,LV.nils]).flatten [(0,v227)])) fun v229 st230=>bd2 (ar st230 7 96 Md.rw v225 v229) fun v231
 st232=>bd (ad 6 x5) fun v233=>bd (ld1 st232 v233) fun v234=>bd (ob3 (some x7) none none fun l h m=>aO st232 1 v234 l h m) fun v235=>bd2 (ar st232 1 16 Md.rw v214 v235) fun v236 st237=>bd (ad 6
 x5) fun v238=>bd2 (lmk (stV st237 1 v238 v236)) fun _v239 st240=>bd (ad 5 x5) fun v241=>bd (ld1 st240 v241) fun v242=>bd (ob3 (some x7) none none fun l h m=>aO st240 7 v242 l h m) fun v243=>bd2
 (ar st240 7 96 Md.rw v231 v243) fun v244 st245=>bd (ad 5 x5) fun v246=>bd2 (lmk (stV st245 1 v246 v244)) fun _v247 st248=>bd (ak BinOp.add x6 (i64 1)) fun v249=>LT Tryz.prog
 [ResultVar.cell 2 49] (bP Tryz.f27 5) R (.aN::x1::x2::x3::x4::x5::v249::x7::(LV.jk 153 [])) st248)∧bd2 (ar st209 1 16 Md.rw v208 v161) fun v250
 st251=>ld1 st251 v164=some v165∧ld1 st251 v162=some v163∧bd2 (aP st251 1 (ao (fun i=>some (i*1,1)) (List.replicate 1 [LV.str []]).flatten [(0,v165)])) fun v252 st253=>(ob3 none (some x7) none fun
 l h m=>aO st253 1 v160 l h m)=some v161∧ld1 st253 v159=some v160∧bd2 (ar st253 1 16 Md.rw v250 v252) fun v254 st255=>bd (ad 5 x5) fun v256=>bd (ld1 st255 v256) fun v257=>bd (ob3 none (some x7)
 none fun l h m=>aO st255 7 v257 l h m) fun v258=>bd (ad 5 x1) fun v259=>bd (ld1 st255 v259) fun v260=>bd (aR 7 v260 x6) fun v261=>bd (ldA st255 v261 7) fun v262=>bd2 (aP st255 0 (ao (fun i=>some (i*7,7)) (List.replicate 0 [i64 0,LV.bool false,i64 0,i64 0,LV.str [],LV.nils,LV.nils]).flatten [])) fun v263 st264=>ldA st264 v261 7=some v262∧ld1 st264
 v259=some v260∧(ob3 none (some x7) none fun l h m=>aO st264 7 v257 l h m)=some v258∧ld1 st264 v256=some v257∧bd2 (ar st264 7 96 Md.rw v263 v258) fun v265 st266=>ldA st266 v261 7=some v262∧ld1
 st266 v259=some v260∧LZ 27 [v262] st266 fun v267 st268=>bd2 (aP st268 1 (ao (fun i=>some (i*7,7)) (List.replicate 1 [i64 0,LV.bool false,i64 0,LV.int
 IntKind.i64 0,LV.str [],LV.nils,LV.nils]).flatten [(0,v267)])) fun v269 st270=>bd2 (ar st270 7 96 Md.rw v265 v269) fun v271 st272=>bd (ad 6 x5) fun v273=>bd (ld1 st272 v273) fun v274=>bd (ob3 (some
 x7) none none fun l h m=>aO st272 1 v274 l h m) fun v275=>bd2 (ar st272 1 16 Md.rw v254 v275) fun v276 st277=>bd (ad 6 x5) fun v278=>bd2 (lmk (stV st277 1 v278 v276)) fun _v279 st280=>bd (ad 5
 x5) fun v281=>bd (ld1 st280 v281) fun v282=>bd (ob3 (some x7) none none fun l h m=>aO st280 7 v282 l h m) fun v283=>bd2 (ar st280 7 96 Md.rw v271 v283) fun v284 st285=>bd (ad 5 x5) fun v286=>bd2
 (lmk (stV st285 1 v286 v284)) fun _v287 st288=>bd (ak BinOp.add x6 (i64 1)) fun v289=>LT Tryz.prog [ResultVar.cell 2 49] (bP Tryz.f27 5) R (.aN::x1::x2::x3::x4::x5::v289::x7::(LV.jk 153 [])) st288))) (bd (ad 6 x5) fun v290=>bd (ld1 st v290) fun v291=>bd (bo v291) fun v292=>bd (ak BinOp.lss x7 v292) fun v293=>al v293 (bd
 (ad 6 x5) fun v294=>bd (ld1 st v294) fun v295=>bd (aR 1 v295 x7) fun v296=>bd (ld1 st v296) fun v297=>bd (ad 6 x1) fun v298=>bd (ld1 st v298) fun v299=>bd (aR 1 v299 x6) fun v300=>bd (ld1 st v300)
 fun v301=>bd (bG BinOp.eql v297 v301) fun v302=>al v302 (bd (ak BinOp.add x6 (i64 1)) fun v303=>lr x1 x2 x3 x4 x5 v303 x7 R st) (bd (ad 6 x5) fun v304=>bd (ld1 st v304) fun v305=>bd
 (ob3 none (some x7) none fun l h m=>aO st 1 v305 l h m) fun v306=>bd (ad 6 x1) fun v307=>bd (ld1 st v307) fun v308=>bd (aR 1 v308 x6) fun v309=>bd (ld1 st v309) fun v310=>(bd2 (aP st 1 (ao (fun
 i=>some (i*1,1)) (List.replicate 1 [LV.str []]).flatten [(0,v310)])) fun v311 st312=>(ob3 none (some x7) none fun l h m=>aO st312 1 v305 l h m)=some v306∧ld1 st312 v304=some v305∧bd2 (aP st312 0
 (ao (fun i=>some (i*1,1)) (List.replicate 0 [LV.str []]).flatten [])) fun v313 st314=>ld1 st314 v309=some v310∧ld1 st314 v307=some v308∧(ob3 none (some x7) none fun l h m=>aO st314 1 v305 l h m) =
 some v306∧ld1 st314 v304=some v305∧bd2 (ar st314 1 16 Md.rw v313 v306) fun v315 st316=>ld1 st316 v309=some v310∧ld1 st316 v307=some v308∧bd2 (ar st316 1 16 Md.rw v315 v311) fun v317 st318=>bd
 (ad 5 x5) fun v319=>bd (ld1 st318 v319) fun v320=>bd (ob3 none (some x7) none fun l h m=>aO st318 7 v320 l h m) fun v321=>bd (ad 5 x1) fun v322=>bd (ld1 st318 v322) fun v323=>bd (aR 7 v323 x6) fun
 v324=>bd (ldA st318 v324 7) fun v325=>bd2 (aP st318 0 (ao (fun i=>some (i*7,7)) (List.replicate 0 [i64 0,LV.bool false,i64 0,i64 0,LV.str [],LV.nils,
 LV.nils]).flatten [])) fun v326 st327=>ldA st327 v324 7=some v325∧ld1 st327 v322=some v323∧(ob3 none (some x7) none fun l h m=>aO st327 7 v320 l h m)=some v321∧ld1 st327 v319=some v320∧bd2
 (ar st327 7 96 Md.rw v326 v321) fun v328 st329=>ldA st329 v324 7=some v325∧ld1 st329 v322=some v323∧LZ 27 [v325] st329 fun v330 st331=>bd2 (aP st331 1 (ao (fun i=>some (i*7,7))
 (List.replicate 1 [i64 0,LV.bool false,i64 0,i64 0,LV.str [],LV.nils,LV.nils]).flatten [(0,v330)])) fun v332 st333=>bd2 (ar st333 7 96 Md.rw v328 v332) fun v334
 st335=>bd (ad 6 x5) fun v336=>bd (ld1 st335 v336) fun v337=>bd (ob3 (some x7) none none fun l h m=>aO st335 1 v337 l h m) fun v338=>bd2 (ar st335 1 16 Md.rw v317 v338) fun v339 st340=>bd (ad 6
 x5) fun v341=>bd2 (lmk (stV st340 1 v341 v339)) fun _v342 st343=>bd (ad 5 x5) fun v344=>bd (ld1 st343 v344) fun v345=>bd (ob3 (some x7) none none fun l h m=>aO st343 7 v345 l h m) fun v346=>bd2
 (ar st343 7 96 Md.rw v334 v346) fun v347 st348=>bd (ad 5 x5) fun v349=>bd2 (lmk (stV st348 1 v349 v347)) fun _v350 st351=>bd (ak BinOp.add x6 (i64 1)) fun v352=>LT Tryz.prog
 [ResultVar.cell 2 49] (bP Tryz.f27 5) R (.aN::x1::x2::x3::x4::x5::v352::x7::(LV.jk 153 [])) st351)∧bd2 (aP st 0 (ao (fun i=>some (i*1,1))
 (List.replicate 0 [LV.str []]).flatten [])) fun v353 st354=>ld1 st354 v309=some v310∧ld1 st354 v307=some v308∧(ob3 none (some x7) none fun l h m=>aO st354 1 v305 l h m)=some v306∧ld1 st354 v304=some
 v305∧(bd2 (aP st354 1 (ao (fun i=>some (i*1,1)) (List.replicate 1 [LV.str []]).flatten [(0,v310)])) fun v355 st356=>(ob3 none (some x7) none fun l h m=>aO st356 1 v305 l h m)=some v306∧ld1 st356
 v304=some v305∧bd2 (ar st356 1 16 Md.rw v353 v306) fun v357 st358=>ld1 st358 v309=some v310∧ld1 st358 v307=some v308∧bd2 (ar st358 1 16 Md.rw v357 v355) fun v359 st360=>bd (ad 5 x5) fun v361
 => bd (ld1 st360 v361) fun v362=>bd (ob3 none (some x7) none fun l h m=>aO st360 7 v362 l h m) fun v363=>bd (ad 5 x1) fun v364=>bd (ld1 st360 v364) fun v365=>bd (aR 7 v365 x6) fun v366=>bd (ldA st360
 v366 7) fun v367=>bd2 (aP st360 0 (ao (fun i=>some (i*7,7)) (List.replicate 0 [i64 0,LV.bool false,i64 0,i64 0,LV.str [],LV.nils,LV.nils]).flatten [])) fun
 v368 st369=>ldA st369 v366 7=some v367∧ld1 st369 v364=some v365∧(ob3 none (some x7) none fun l h m=>aO st369 7 v362 l h m)=some v363∧ld1 st369 v361=some v362∧bd2 (ar st369 7 96 Md.rw v368
 v363) fun v370 st371=>ldA st371 v366 7=some v367∧ld1 st371 v364=some v365∧LZ 27 [v367] st371 fun v372 st373=>bd2 (aP st373 1 (ao (fun i=>some (i*7,7)) (List.replicate 1 [LV.int
 IntKind.i64 0,LV.bool false,i64 0,i64 0,LV.str [],LV.nils,LV.nils]).flatten [(0,v372)])) fun v374 st375=>bd2 (ar st375 7 96 Md.rw v370 v374) fun v376 st377=>bd (ad 6 x5)
 fun v378=>bd (ld1 st377 v378) fun v379=>bd (ob3 (some x7) none none fun l h m=>aO st377 1 v379 l h m) fun v380=>bd2 (ar st377 1 16 Md.rw v359 v380) fun v381 st382=>bd (ad 6 x5) fun v383=>bd2 (lmk
 (stV st382 1 v383 v381)) fun _v384 st385=>bd (ad 5 x5) fun v386=>bd (ld1 st385 v386) fun v387=>bd (ob3 (some x7) none none fun l h m=>aO st385 7 v387 l h m) fun v388=>bd2 (ar st385 7 96 Md.rw v376
 v388) fun v389 st390=>bd (ad 5 x5) fun v391=>bd2 (lmk (stV st390 1 v391 v389)) fun _v392 st393=>bd (ak BinOp.add x6 (i64 1)) fun v394=>LT Tryz.prog [ResultVar.cell 2 49] (bP Tryz.f27 5) R
 (.aN::x1::x2::x3::x4::x5::v394::x7::(LV.jk 153 [])) st393)∧bd2 (ar st354 1 16 Md.rw v353 v306) fun v395 st396=>ld1 st396 v309=some v310∧ld1
 st396 v307=some v308∧bd2 (aP st396 1 (ao (fun i=>some (i*1,1)) (List.replicate 1 [LV.str []]).flatten [(0,v310)])) fun v397 st398=>(ob3 none (some x7) none fun l h m=>aO st398 1 v305 l h m)=some
 v306∧ld1 st398 v304=some v305∧bd2 (ar st398 1 16 Md.rw v395 v397) fun v399 st400=>bd (ad 5 x5) fun v401=>bd (ld1 st400 v401) fun v402=>bd (ob3 none (some x7) none fun l h m=>aO st400 7 v402 l h
 m) fun v403=>bd (ad 5 x1) fun v404=>bd (ld1 st400 v404) fun v405=>bd (aR 7 v405 x6) fun v406=>bd (ldA st400 v406 7) fun v407=>bd2 (aP st400 0 (ao (fun i=>some (i*7,7)) (List.replicate 0 [LV.int
 IntKind.i64 0,LV.bool false,i64 0,i64 0,LV.str [],LV.nils,LV.nils]).flatten [])) fun v408 st409=>ldA st409 v406 7=some v407∧ld1 st409 v404=some v405∧(ob3 none (some x7) none
 fun l h m=>aO st409 7 v402 l h m)=some v403∧ld1 st409 v401=some v402∧bd2 (ar st409 7 96 Md.rw v408 v403) fun v410 st411=>ldA st411 v406 7=some v407∧ld1 st411 v404=some v405∧LZ
 27 [v407] st411 fun v412 st413=>bd2 (aP st413 1 (ao (fun i=>some (i*7,7)) (List.replicate 1 [i64 0,LV.bool false,i64 0,i64 0,LV.str [],LV.nils,
 LV.nils]).flatten [(0,v412)])) fun v414 st415=>bd2 (ar st415 7 96 Md.rw v410 v414) fun v416 st417=>bd (ad 6 x5) fun v418=>bd (ld1 st417 v418) fun v419=>bd (ob3 (some x7) none none fun l h m=>aO
 st417 1 v419 l h m) fun v420=>bd2 (ar st417 1 16 Md.rw v399 v420) fun v421 st422=>bd (ad 6 x5) fun v423=>bd2 (lmk (stV st422 1 v423 v421)) fun _v424 st425=>bd (ad 5 x5) fun v426=>bd (ld1 st425 v426)
 fun v427=>bd (ob3 (some x7) none none fun l h m=>aO st425 7 v427 l h m) fun v428=>bd2 (ar st425 7 96 Md.rw v416 v428) fun v429 st430=>bd (ad 5 x5) fun v431=>bd2 (lmk (stV st430 1 v431 v429)) fun
 _v432 st433=>bd (ak BinOp.add x6 (i64 1)) fun v434=>LT Tryz.prog [ResultVar.cell 2 49] (bP Tryz.f27 5) R (.aN::x1::x2::x3::x4::x5::v434::x7::(LV.jk 153 [])) st433)) (bd (ad 6 x5) fun v435=>bd (ld1 st v435) fun v436=>bd (ob3 none (some x7) none fun l h m=>aO st 1 v436 l h m) fun v437=>bd (ad 6 x1) fun v438=>bd (ld1 st
 v438) fun v439=>bd (aR 1 v439 x6) fun v440=>bd (ld1 st v440) fun v441=>(bd2 (aP st 1 (ao (fun i=>some (i*1,1)) (List.replicate 1 [LV.str []]).flatten [(0,v441)])) fun v442 st443=>(ob3 none (some x7)
 none fun l h m=>aO st443 1 v436 l h m)=some v437∧ld1 st443 v435=some v436∧bd2 (aP st443 0 (ao (fun i=>some (i*1,1)) (List.replicate 0 [LV.str []]).flatten [])) fun v444 st445=>ld1 st445 v440 =
 some v441∧ld1 st445 v438=some v439∧(ob3 none (some x7) none fun l h m=>aO st445 1 v436 l h m)=some v437∧ld1 st445 v435=some v436∧bd2 (ar st445 1 16 Md.rw v444 v437) fun v446 st447=>ld1 st447
 v440=some v441∧ld1 st447 v438=some v439∧bd2 (ar st447 1 16 Md.rw v446 v442) fun v448 st449=>bd (ad 5 x5) fun v450=>bd (ld1 st449 v450) fun v451=>bd (ob3 none (some x7) none fun l h m=>aO st449
 7 v451 l h m) fun v452=>bd (ad 5 x1) fun v453=>bd (ld1 st449 v453) fun v454=>bd (aR 7 v454 x6) fun v455=>bd (ldA st449 v455 7) fun v456=>bd2 (aP st449 0 (ao (fun i=>some (i*7,7)) (List.replicate
 0 [i64 0,LV.bool false,i64 0,i64 0,LV.str [],LV.nils,LV.nils]).flatten [])) fun v457 st458=>ldA st458 v455 7=some v456∧ld1 st458 v453=some v454∧(ob3 none (some
 x7) none fun l h m=>aO st458 7 v451 l h m)=some v452∧ld1 st458 v450=some v451∧bd2 (ar st458 7 96 Md.rw v457 v452) fun v459 st460=>ldA st460 v455 7=some v456∧ld1 st460 v453=some v454∧ax
 Tryz.prog 27 [v456] st460 fun v461 st462=>bd2 (aP st462 1 (ao (fun i=>some (i*7,7)) (List.replicate 1 [i64 0,LV.bool false,i64 0,i64 0,LV.str [],LV.nils,
 LV.nils]).flatten [(0,v461)])) fun v463 st464=>bd2 (ar st464 7 96 Md.rw v459 v463) fun v465 st466=>bd (ad 6 x5) fun v467=>bd (ld1 st466 v467) fun v468=>bd (ob3 (some x7) none none fun l h m=>aO
 st466 1 v468 l h m) fun v469=>bd2 (ar st466 1 16 Md.rw v448 v469) fun v470 st471=>bd (ad 6 x5) fun v472=>bd2 (lmk (stV st471 1 v472 v470)) fun _v473 st474=>bd (ad 5 x5) fun v475=>bd (ld1 st474 v475)
 fun v476=>bd (ob3 (some x7) none none fun l h m=>aO st474 7 v476 l h m) fun v477=>bd2 (ar st474 7 96 Md.rw v465 v477) fun v478 st479=>bd (ad 5 x5) fun v480=>bd2 (lmk (stV st479 1 v480 v478)) fun
 _v481 st482=>bd (ak BinOp.add x6 (i64 1)) fun v483=>LT Tryz.prog [ResultVar.cell 2 49] (bP Tryz.f27 5) R (.aN::x1::x2::x3::x4::x5::v483::x7::(LV.jk 153 [])) st482)∧bd2 (aP st 0 (ao (fun i=>some (i*1,1)) (List.replicate 0 [LV.str []]).flatten [])) fun v484 st485=>ld1 st485 v440=some v441∧ld1 st485 v438=some v439∧(ob3
 none (some x7) none fun l h m=>aO st485 1 v436 l h m)=some v437∧ld1 st485 v435=some v436∧(bd2 (aP st485 1 (ao (fun i=>some (i*1,1)) (List.replicate 1 [LV.str []]).flatten [(0,v441)])) fun v486
 st487=>(ob3 none (some x7) none fun l h m=>aO st487 1 v436 l h m)=some v437∧ld1 st487 v435=some v436∧bd2 (ar st487 1 16 Md.rw v484 v437) fun v488 st489=>ld1 st489 v440=some v441∧ld1 st489 v438
 = some v439∧bd2 (ar st489 1 16 Md.rw v488 v486) fun v490 st491=>bd (ad 5 x5) fun v492=>bd (ld1 st491 v492) fun v493=>bd (ob3 none (some x7) none fun l h m=>aO st491 7 v493 l h m) fun v494=>bd
 (ad 5 x1) fun v495=>bd (ld1 st491 v495) fun v496=>bd (aR 7 v496 x6) fun v497=>bd (ldA st491 v497 7) fun v498=>bd2 (aP st491 0 (ao (fun i=>some (i*7,7)) (List.replicate 0 [i64 0,
 LV.bool false,i64 0,i64 0,LV.str [],LV.nils,LV.nils]).flatten [])) fun v499 st500=>ldA st500 v497 7=some v498∧ld1 st500 v495=some v496∧(ob3 none (some x7) none fun l h m=>aO st500 7 v493 l h m)=some v494∧ld1 st500 v492=some v493∧bd2 (ar st500 7 96 Md.rw v499 v494) fun v501 st502=>ldA st502 v497 7=some v498∧ld1 st502 v495=some v496∧LZ 27 [v498]
 st502 fun v503 st504=>bd2 (aP st504 1 (ao (fun i=>some (i*7,7)) (List.replicate 1 [i64 0,LV.bool false,i64 0,i64 0,LV.str [],LV.nils,LV.nils]).flatten [(0,
 v503)])) fun v505 st506=>bd2 (ar st506 7 96 Md.rw v501 v505) fun v507 st508=>bd (ad 6 x5) fun v509=>bd (ld1 st508 v509) fun v510=>bd (ob3 (some x7) none none fun l h m=>aO st508 1 v510 l h m) fun
 v511=>bd2 (ar st508 1 16 Md.rw v490 v511) fun v512 st513=>bd (ad 6 x5) fun v514=>bd2 (lmk (stV st513 1 v514 v512)) fun _v515 st516=>bd (ad 5 x5) fun v517=>bd (ld1 st516 v517) fun v518=>bd (ob3
 (some x7) none none fun l h m=>aO st516 7 v518 l h m) fun v519=>bd2 (ar st516 7 96 Md.rw v507 v519) fun v520 st521=>bd (ad 5 x5) fun v522=>bd2 (lmk (stV st521 1 v522 v520)) fun _v523 st524=>bd (ak
 BinOp.add x6 (i64 1)) fun v525=>LT Tryz.prog [ResultVar.cell 2 49] (bP Tryz.f27 5) R (.aN::x1::x2::x3::x4::x5::v525::x7::(LV.jk 153 [])) st524)∧bd2 (ar st485 1 16 Md.rw v484 v437) fun v526 st527=>ld1 st527 v440=some v441∧ld1 st527 v438=some v439∧bd2 (aP st527 1 (ao (fun i=>some (i*1,1)) (List.replicate 1 [LV.str
 []]).flatten [(0,v441)])) fun v528 st529=>(ob3 none (some x7) none fun l h m=>aO st529 1 v436 l h m)=some v437∧ld1 st529 v435=some v436∧bd2 (ar st529 1 16 Md.rw v526 v528) fun v530 st531=>bd
 (ad 5 x5) fun v532=>bd (ld1 st531 v532) fun v533=>bd (ob3 none (some x7) none fun l h m=>aO st531 7 v533 l h m) fun v534=>bd (ad 5 x1) fun v535=>bd (ld1 st531 v535) fun v536=>bd (aR 7 v536 x6) fun
 v537=>bd (ldA st531 v537 7) fun v538=>bd2 (aP st531 0 (ao (fun i=>some (i*7,7)) (List.replicate 0 [i64 0,LV.bool false,i64 0,i64 0,LV.str [],LV.nils,
 LV.nils]).flatten [])) fun v539 st540=>ldA st540 v537 7=some v538∧ld1 st540 v535=some v536∧(ob3 none (some x7) none fun l h m=>aO st540 7 v533 l h m)=some v534∧ld1 st540 v532=some v533∧bd2
 (ar st540 7 96 Md.rw v539 v534) fun v541 st542=>ldA st542 v537 7=some v538∧ld1 st542 v535=some v536∧LZ 27 [v538] st542 fun v543 st544=>bd2 (aP st544 1 (ao (fun i=>some (i*7,7))
 (List.replicate 1 [i64 0,LV.bool false,i64 0,i64 0,LV.str [],LV.nils,LV.nils]).flatten [(0,v543)])) fun v545 st546=>bd2 (ar st546 7 96 Md.rw v541 v545) fun v547
 st548=>bd (ad 6 x5) fun v549=>bd (ld1 st548 v549) fun v550=>bd (ob3 (some x7) none none fun l h m=>aO st548 1 v550 l h m) fun v551=>bd2 (ar st548 1 16 Md.rw v530 v551) fun v552 st553=>bd (ad 6
 x5) fun v554=>bd2 (lmk (stV st553 1 v554 v552)) fun _v555 st556=>bd (ad 5 x5) fun v557=>bd (ld1 st556 v557) fun v558=>bd (ob3 (some x7) none none fun l h m=>aO st556 7 v558 l h m) fun v559=>bd2
 (ar st556 7 96 Md.rw v547 v559) fun v560 st561=>bd (ad 5 x5) fun v562=>bd2 (lmk (stV st561 1 v562 v560)) fun _v563 st564=>bd (ak BinOp.add x6 (i64 1)) fun v565=>LT Tryz.prog
 [ResultVar.cell 2 49] (bP Tryz.f27 5) R (.aN::x1::x2::x3::x4::x5::v565::x7::(LV.jk 153 [])) st564))
theorem GV (x1 x2 x3 x4 x5 x6 x7:LV) (R:LV.RT) (st:aa):cj Tryz.prog [.cell 2 49] R [0,8,9,10,11,12,13,14,15,16,17,18,19,20,21,22,23,24,25,26,27,28,29,30,31,32,33,34,35,36,37,38,39,40,41,42,43,44,45,46,47,48,49,50,51,52,53,54,55,56,57,58,59,60,61,62,63,64,65,66,67,68,69,70,71,72,73,74,75,76,77,78,79,80,81,82,83,84,85,86,87,88,89,90,91,92,93,94,95,96,97,98,99,100,101,102,103,104,105,106,107,108,109,110,111,112,113,114,115,116,117,118,119,120,121,122,123,124,125,126,127,128,129,130,131,132,133,134,135,136,137,138,139,140,141,142,143,144,145,146,147,148,149,150,151,152,153,154,155,156,157,158,159,160] [] 3000 (cV (bP Tryz.f27 8)) (.aN::x1::x2::x3::x4::x5::x6::x7::(LV.jk 153 [])) st=GU x1 x2 x3 x4 x5 x6 x7 R st:=by kernel_rfl
theorem KJ (x1 x2 x3 x4 x5 x6 x7:LV) {R:LV.RT} {st:aa} (h:GU x1 x2 x3 x4 x5 x6 x7 R st):yJ x1 x2 x3 x4 x5 x6 x7 R st:=
 LT.at aG 3000 (Eq.mpr (GV x1 x2 x3 x4 x5 x6 x7 R st) h)
end Go.Proofs.YtknegckgmklnhaaGreatDoor
