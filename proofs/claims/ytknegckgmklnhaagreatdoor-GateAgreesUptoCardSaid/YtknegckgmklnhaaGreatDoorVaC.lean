/- Parts of the proof. -/
import Derived.Test.YtknegckgmklnhaaGreatDoorVbW16
import Derived.Shelf.SortM.Plain
import Derived.Shelf.SortM.SortNone
import Derived.Ground.GgzProg
import Derived.Ground.SlgmProg
namespace Go.Proofs.YtknegckgmklnhaaGreatDoor
open Go Go.CP
set_option maxRecDepth 100000
def uQ (x1 x2 x3 x4 x5 x6 x7:LV) (R:LV.RT) (st:aa):Prop:=LT Tryz.prog [.cell 2 49] (bL Tryz.f27 2) R (.aJ::x1::x2::x3::x4::x5::x6::x7::(LV.jk 153 [])) st
def kD (x1 x2 x3 x4 x5 x6 x7:LV) (R:LV.RT) (st:aa):Prop:=LT Tryz.prog [.cell 2 49] (bL Tryz.f27 5) R (.aJ::x1::x2::x3::x4::x5::x6::x7::(LV.jk 153 [])) st
def uR (x1 x2 x3 x4 x5 x6 x7:LV) (R:LV.RT) (st:aa):Prop:=LT Tryz.prog [.cell 2 49] (bL Tryz.f27 8) R (.aJ::x1::x2::x3::x4::x5::x6::x7::(LV.jk 153 [])) st
def w27 (a0:LV) (R:LV.RT) (st:aa):Prop:=
 bd2 (cy st a0) fun v0 st1=>nw st1 [i64 0,LV.bool false,i64 0,i64 0,LV.str [],LV.nils,LV.nils] fun v2 st3=>bd (aK 0 v0) fun v4=>bd (ld1 st3 v4) fun v5=>bd
 (aU BinOp.eql v5 (i64 1)) fun v6=>aL v6 (bd (bG (aV (aQ [(0,1),(1,1),(2,1),(3,1),(4,1),(5,1),(6,1)]) [i64 0,LV.bool false,i64 0,LV.int
 IntKind.i64 0,LV.str [],LV.nils,LV.nils] [(0,i64 1)])) fun v7=>bd2 (lmk (stV st3 7 v2 v7)) fun _v8 st9=>bd (ldA st9 v2 7) fun v10=>R v10 st9) (bd (aU BinOp.eql v5 (i64 2)) fun
 v11=>aL v11 (bd (aK 1 v0) fun v12=>bd (ld1 st3 v12) fun v13=>bd (bG (aV (aQ [(0,1),(1,1),(2,1),(3,1),(4,1),(5,1),(6,1)]) [i64 0,LV.bool false,i64 0,
 i64 0,LV.str [],LV.nils,LV.nils] [(0,i64 2),(1,v13)])) fun v14=>bd2 (lmk (stV st3 7 v2 v14)) fun _v15 st16=>bd (ldA st16 v2 7) fun v17=>R v17 st16) (bd (aU BinOp.eql v5 (LV.int
 IntKind.i64 3)) fun v18=>aL v18 (bd (aK 2 v0) fun v19=>bd (ld1 st3 v19) fun v20=>bd (bG (aV (aQ [(0,1),(1,1),(2,1),(3,1),(4,1),(5,1),(6,1)]) [i64 0,LV.bool false,LV.int
 IntKind.i64 0,i64 0,LV.str [],LV.nils,LV.nils] [(0,i64 3),(2,v20)])) fun v21=>bd2 (lmk (stV st3 7 v2 v21)) fun _v22 st23=>bd (ldA st23 v2 7) fun v24=>R v24 st23) (bd (aU
 BinOp.eql v5 (i64 4)) fun v25=>aL v25 (bd (aK 2 v0) fun v26=>bd (ld1 st3 v26) fun v27=>bd (gh [v27,i64 (-9007199254740992)]) fun v28=>bd (oN [v28,LV.int IntKind.i64
 9007199254740992]) fun v29=>bd (aK 3 v0) fun v30=>bd (ld1 st3 v30) fun v31=>bd (gh [v31,i64 (-9007199254740992)]) fun v32=>bd (oN [v32,i64 9007199254740992]) fun v33=>bd
 (bG (aV (aQ [(0,1),(1,1),(2,1),(3,1),(4,1),(5,1),(6,1)]) [i64 0,LV.bool false,i64 0,i64 0,LV.str [],LV.nils,LV.nils] [(0,i64 4),
 (2,v29),(3,v33)])) fun v34=>bd2 (lmk (stV st3 7 v2 v34)) fun _v35 st36=>bd (ldA st36 v2 7) fun v37=>R v37 st36) (bd (aU BinOp.eql v5 (i64 5)) fun v38=>aL v38 (bd (aK 4 v0) fun v39=>bd
 (ld1 st3 v39) fun v40=>bd (bG (aV (aQ [(0,1),(1,1),(2,1),(3,1),(4,1),(5,1),(6,1)]) [i64 0,LV.bool false,i64 0,i64 0,LV.str [],LV.nils,LV.nils]
 [(0,i64 5),(4,v40)])) fun v41=>bd2 (lmk (stV st3 7 v2 v41)) fun _v42 st43=>bd (ldA st43 v2 7) fun v44=>R v44 st43) (bd (aU BinOp.eql v5 (i64 6)) fun v45=>aL v45 (bd (bG
 (aV (aQ [(0,1),(1,1),(2,1),(3,1),(4,1),(5,1),(6,1)]) [i64 0,LV.bool false,i64 0,i64 0,LV.str [],LV.nils,LV.nils] [(0,i64 6)])) fun
 v46=>nw st3 [i64 0,LV.bool false,i64 0,i64 0,LV.str [],LV.nils,LV.nils] fun v47 st48=>bd2 (lmk (stV st48 7 v47 v46)) fun _v49 st50=>uQ v0 v2 v47 (LV.int
 IntKind.i64 0) (LV.tup []) (LV.tup []) (LV.tup []) R st50) (bd (aU BinOp.eql v5 (i64 7)) fun v51=>aL v51 (bd (bG (aV (aQ [(0,1),(1,1),(2,1),(3,1),(4,1),(5,1),(6,1)]) [LV.int
 IntKind.i64 0,LV.bool false,i64 0,i64 0,LV.str [],LV.nils,LV.nils] [(0,i64 7)])) fun v52=>nw st3 [i64 0,LV.bool false,i64 0,LV.int
 IntKind.i64 0,LV.str [],LV.nils,LV.nils] fun v53 st54=>bd2 (lmk (stV st54 7 v53 v52)) fun _v55 st56=>kD v0 v2 (LV.tup []) (LV.tup []) v53 (i64 0) (LV.tup []) R st56) (bd (bG (aV (aQ
 [(0,1),(1,1),(2,1),(3,1),(4,1),(5,1),(6,1)]) [i64 0,LV.bool false,i64 0,i64 0,LV.str [],LV.nils,LV.nils] [])) fun v57=>bd2 (lmk (stV st3 7 v2 v57)) fun
 _v58 st59=>bd (ldA st59 v2 7) fun v60=>R v60 st59)))))))
theorem A1 (a0:LV) (R:LV.RT) (st:aa):bK Tryz.prog [.cell 2 49] R [0,8,9,10,11,12,13,14,15,16,17,18,19,20,21,22,23,24,25,26,27,28,29,30,31,32,33,34,35,36,37,38,39,40,41,42,43,44,45,46,47,48,49,50,51,52,53,54,55,56,57,58,59,60,61,62,63,64,65,66,67,68,69,70,71,72,73,74,75,76,77,78,79,80,81,82,83,84,85,86,87,88,89,90,91,92,93,94,95,96,97,98,99,100,101,102,103,104,105,106,107,108,109,110,111,112,113,114,115,116,117,118,119,120,121,122,123,124,125,126,127,128,129,130,131,132,133,134,135,136,137,138,139,140,141,142,143,144,145,146,147,148,149,150,151,152,153,154,155,156,157,158,159,160] [] 3000 [.code (ay Tryz.f27)] ([a0]++List.replicate (Tryz.f27.ntmps-1) af) st=w27 a0 R st:=by kernel_rfl
theorem c27 (a0:LV) {R:LV.RT} {st:aa} (h:w27 a0 R st):LZ 27 [a0] st R:=
 ak.of ag Tryz.func27 (show Tryz.f27.body=some (ay Tryz.f27) by kernel_rfl) (by kernel_rfl) (show Tryz.f27.results.toList=[.cell 2 49] by kernel_rfl) (aw ag 3000 (Eq.mpr (A1 a0 R st) h))
def uS (x1 x2 x3 x4 x5 x6 x7:LV) (R:LV.RT) (st:aa):Prop:=
 bd (aK 5 x1) fun v0=>bd (ld1 st v0) fun v1=>bd (bg v1) fun v2=>bd (aU BinOp.lss x4 v2) fun v3=>aL v3 (bd (aK 5 x3) fun v4=>bd (ld1 st v4) fun v5=>bd (aK 5 x1) fun v6=>bd (ld1 st v6) fun v7
 => bd (bF 7 v7 x4) fun v8=>bd (ldA st v8 7) fun v9=>LZ 27 [v9] st fun v10 st11=>ld1 st11 v4=some v5∧bd2 (eO st11 1 (aV (fun i=>some (i*7,7)) (List.replicate 1 [i64 0,
 LV.bool false,i64 0,i64 0,LV.str [],LV.nils,LV.nils]).flatten [(0,v10)])) fun v12 st13=>ld1 st13 v4=some v5∧bd2 (a6 st13 7 96 Md.rw v5 v12) fun v14 st15=>bd (aK 5 x3)
 fun v16=>bd2 (lmk (stV st15 1 v16 v14)) fun _v17 st18=>bd (aU BinOp.add x4 (i64 1)) fun v19=>uQ x1 x2 x3 v19 x5 x6 x7 R st18) (bd (ldA st x3 7) fun v20=>bd2 (lmk (stV st 7 x2 v20)) fun _v21
 st22=>bd (ldA st22 x2 7) fun v23=>R v23 st22)
theorem xE (x1 x2 x3 x4 x5 x6 x7:LV) (R:LV.RT) (st:aa):bK Tryz.prog [.cell 2 49] R [0,8,9,10,11,12,13,14,15,16,17,18,19,20,21,22,23,24,25,26,27,28,29,30,31,32,33,34,35,36,37,38,39,40,41,42,43,44,45,46,47,48,49,50,51,52,53,54,55,56,57,58,59,60,61,62,63,64,65,66,67,68,69,70,71,72,73,74,75,76,77,78,79,80,81,82,83,84,85,86,87,88,89,90,91,92,93,94,95,96,97,98,99,100,101,102,103,104,105,106,107,108,109,110,111,112,113,114,115,116,117,118,119,120,121,122,123,124,125,126,127,128,129,130,131,132,133,134,135,136,137,138,139,140,141,142,143,144,145,146,147,148,149,150,151,152,153,154,155,156,157,158,159,160] [] 3000 (bB (bL Tryz.f27 2)) (.aJ::x1::x2::x3::x4::x5::x6::x7::(LV.jk 153 [])) st=uS x1 x2 x3 x4 x5 x6 x7 R st:=by kernel_rfl
theorem zS (x1 x2 x3 x4 x5 x6 x7:LV) {R:LV.RT} {st:aa} (h:uS x1 x2 x3 x4 x5 x6 x7 R st):uQ x1 x2 x3 x4 x5 x6 x7 R st:=
 LT.at ag 3000 (Eq.mpr (xE x1 x2 x3 x4 x5 x6 x7 R st) h)
def uT (x1 x2 x3 x4 x5 x6 _x7:LV) (R:LV.RT) (st:aa):Prop:=
 bd (aK 5 x1) fun v0=>bd (ld1 st v0) fun v1=>bd (bg v1) fun v2=>bd (aU BinOp.lss x6 v2) fun v3=>aL v3 (bd (aK 6 x1) fun v4=>bd (ld1 st v4) fun v5=>bd (bg v5) fun v6=>bd (aU BinOp.lss x6 v6)
 fun v7=>aL v7 (uR x1 x2 x3 x4 x5 x6 (i64 0) R st) (bd (ldA st x5 7) fun v8=>bd2 (lmk (stV st 7 x2 v8)) fun _v9 st10=>bd (ldA st10 x2 7) fun v11=>R v11 st10)) (bd (ldA st x5 7) fun v12=>bd2
 (lmk (stV st 7 x2 v12)) fun _v13 st14=>bd (ldA st14 x2 7) fun v15=>R v15 st14)
theorem xF (x1 x2 x3 x4 x5 x6 x7:LV) (R:LV.RT) (st:aa):bK Tryz.prog [.cell 2 49] R [0,8,9,10,11,12,13,14,15,16,17,18,19,20,21,22,23,24,25,26,27,28,29,30,31,32,33,34,35,36,37,38,39,40,41,42,43,44,45,46,47,48,49,50,51,52,53,54,55,56,57,58,59,60,61,62,63,64,65,66,67,68,69,70,71,72,73,74,75,76,77,78,79,80,81,82,83,84,85,86,87,88,89,90,91,92,93,94,95,96,97,98,99,100,101,102,103,104,105,106,107,108,109,110,111,112,113,114,115,116,117,118,119,120,121,122,123,124,125,126,127,128,129,130,131,132,133,134,135,136,137,138,139,140,141,142,143,144,145,146,147,148,149,150,151,152,153,154,155,156,157,158,159,160] [] 3000 (bB (bL Tryz.f27 5)) (.aJ::x1::x2::x3::x4::x5::x6::x7::(LV.jk 153 [])) st=uT x1 x2 x3 x4 x5 x6 x7 R st:=by kernel_rfl
theorem zT (x1 x2 x3 x4 x5 x6 x7:LV) {R:LV.RT} {st:aa} (h:uT x1 x2 x3 x4 x5 x6 x7 R st):kD x1 x2 x3 x4 x5 x6 x7 R st:=
 LT.at ag 3000 (Eq.mpr (xF x1 x2 x3 x4 x5 x6 x7 R st) h)
def T27 (x1 x2 x3 x4 x5 x6 x7:LV) (R:LV.RT) (g:LV) (st:aa):Prop:=
 bd (aK 5 x5) fun v43=>bd (ld1 st v43) fun v44=>bd (ob3 none (some x7) none fun l h m=>cq st 7 v44 l h m) fun v45=>bd (aK 5 x1) fun v46=>bd (ld1 st v46) fun v47=>bd (bF 7 v47
 x6) fun v48=>bd (ldA st v48 7) fun v49=>bd2 (eO st 0 (aV (fun i=>some (i*7,7)) (List.replicate 0 [i64 0,LV.bool false,i64 0,i64 0,
 LV.str [],LV.nils,LV.nils]).flatten [])) fun v50 st51=>ldA st51 v48 7=some v49∧ld1 st51 v46=some v47∧(ob3 none (some x7) none fun l h m=>cq st51 7 v44 l h m)=some v45∧ld1 st51
 v43=some v44∧bd2 (a6 st51 7 96 Md.rw v50 v45) fun v52 st53=>ldA st53 v48 7=some v49∧ld1 st53 v46=some v47∧LZ 27 [v49] st53 fun v54 st55=>bd2 (eO st55 1 (aV
 (fun i=>some (i*7,7)) (List.replicate 1 [i64 0,LV.bool false,i64 0,i64 0,LV.str [],LV.nils,LV.nils]).flatten [(0,v54)])) fun v56 st57=>bd2
 (a6 st57 7 96 Md.rw v52 v56) fun v58 st59=>bd (aK 6 x5) fun v60=>bd (ld1 st59 v60) fun v61=>bd (ob3 (some x7) none none fun l h m=>cq st59 1 v61 l h m) fun v62=>bd2 (a6
 st59 1 16 Md.rw g v62) fun v63 st64=>bd (aK 6 x5) fun v65=>bd2 (lmk (stV st64 1 v65 v63)) fun _v66 st67=>bd (aK 5 x5) fun v68=>bd (ld1 st67 v68) fun v69=>bd (ob3 (some x7) none none
 fun l h m=>cq st67 7 v69 l h m) fun v70=>bd2 (a6 st67 7 96 Md.rw v58 v70) fun v71 st72=>bd (aK 5 x5) fun v73=>bd2 (lmk (stV st72 1 v73 v71)) fun _v74 st75=>bd (aU BinOp.add x6
 (i64 1)) fun v76=>kD x1 x2 x3 x4 x5 v76 x7 R st75
def I27 (x1 x2 x3 x4 x5 x6 x7:LV) (R:LV.RT) (st:aa):Prop:=
 bd (aK 6 x5) fun v28=>bd (ld1 st v28) fun v29=>bd (ob3 none (some x7) none fun l h m=>cq st 1 v29 l h m) fun v30=>bd (aK 6 x1) fun v31=>bd (ld1 st v31) fun v32=>bd (bF 1 v32
 x6) fun v33=>bd (ld1 st v33) fun v34=>(bd2 (eO st 1 (aV (fun i=>some (i*1,1)) (List.replicate 1 [LV.str []]).flatten [(0,v34)])) fun v35 st36=>(ob3 none (some x7) none fun l h m=>cq st36 1 v29 l h m)=some v30∧ld1 st36 v28=some v29∧bd2 (eO st36 0 (aV (fun i=>some (i*1,1)) (List.replicate 0 [LV.str []]).flatten [])) fun v37 st38=>ld1 st38 v33=some v34
 ∧ ld1 st38 v31=some v32∧(ob3 none (some x7) none fun l h m=>cq st38 1 v29 l h m)=some v30∧ld1 st38 v28=some v29∧bd2 (a6 st38 1 16 Md.rw v37 v30) fun v39 st40=>ld1 st40 v33 =
 some v34∧ld1 st40 v31=some v32∧bd2 (a6 st40 1 16 Md.rw v39 v35) fun v41 st42=>T27 x1 x2 x3 x4 x5 x6 x7 R v41 st42)∧bd2 (eO st 0 (aV (fun i=>some (i*1,1)) (List.replicate 0
 [LV.str []]).flatten [])) fun v77 st78=>ld1 st78 v33=some v34∧ld1 st78 v31=some v32∧(ob3 none (some x7) none fun l h m=>cq st78 1 v29 l h m)=some v30∧ld1 st78 v28=some v29∧
 (bd2 (eO st78 1 (aV (fun i=>some (i*1,1)) (List.replicate 1 [LV.str []]).flatten [(0,v34)])) fun v79 st80=>(ob3 none (some x7) none fun l h m=>cq st80 1 v29 l h m)=some v30∧
 ld1 st80 v28=some v29∧bd2 (a6 st80 1 16 Md.rw v77 v30) fun v81 st82=>ld1 st82 v33=some v34∧ld1 st82 v31=some v32∧bd2 (a6 st82 1 16 Md.rw v81 v79) fun v83 st84=>T27 x1 x2 x3
 x4 x5 x6 x7 R v83 st84)∧bd2 (a6 st78 1 16 Md.rw v77 v30) fun v119 st120=>ld1 st120 v33=some v34∧ld1 st120 v31=some v32∧bd2 (eO st120 1 (aV (fun i=>some (i*1,1))
 (List.replicate 1 [LV.str []]).flatten [(0,v34)])) fun v121 st122=>(ob3 none (some x7) none fun l h m=>cq st122 1 v29 l h m)=some v30∧ld1 st122 v28=some v29∧bd2 (a6 st122 1 16
 Md.rw v119 v121) fun v123 st124=>T27 x1 x2 x3 x4 x5 x6 x7 R v123 st124
def se (x1 x2 x3 x4 x5 x6 x7:LV) (R:LV.RT) (st:aa):Prop:=
 bd (aK 6 x5) fun v0=>bd (ld1 st v0) fun v1=>bd (bg v1) fun v2=>bd (aU BinOp.lss x7 v2) fun v3=>aL v3 (bd (aK 6 x5) fun v4=>bd (ld1 st v4) fun v5=>bd (bF 1 v5 x7) fun v6=>bd (ld1 st v6) fun v7=>bd (aK 6 x1) fun v8=>bd (ld1 st v8) fun v9=>bd (bF 1 v9 x6) fun v10=>bd (ld1 st v10) fun v11=>bd (pC BinOp.lss v7 v11) fun v12=>aL v12 (bd (aU BinOp.add
 x7 (i64 1)) fun v13=>uR x1 x2 x3 x4 x5 x6 v13 R st) (bd (aK 6 x5) fun v14=>bd (ld1 st v14) fun v15=>bd (bg v15) fun v16=>bd (aU BinOp.lss x7 v16) fun v17=>aL v17
 (bd (aK 6 x5) fun v18=>bd (ld1 st v18) fun v19=>bd (bF 1 v19 x7) fun v20=>bd (ld1 st v20) fun v21=>bd (aK 6 x1) fun v22=>bd (ld1 st v22) fun v23=>bd (bF 1 v23 x6) fun v24=>bd
 (ld1 st v24) fun v25=>bd (pC BinOp.eql v21 v25) fun v26=>aL v26 (bd (aU BinOp.add x6 (i64 1)) fun v27=>kD x1 x2 x3 x4 x5 v27 x7 R st) (I27 x1 x2 x3 x4 x5 x6 x7 R st))
 (I27 x1 x2 x3 x4 x5 x6 x7 R st))) (bd (aK 6 x5) fun v290=>bd (ld1 st v290) fun v291=>bd (bg v291) fun v292=>bd (aU BinOp.lss x7 v292) fun v293=>aL v293 (bd (aK 6 x5) fun v294=>bd (ld1 st v294) fun v295=>bd (bF 1 v295 x7) fun v296=>bd (ld1 st v296) fun v297=>bd (aK 6 x1) fun v298=>bd (ld1 st v298) fun v299=>bd (bF 1 v299 x6) fun v300=>bd (ld1 st v300) fun
 v301=>bd (pC BinOp.eql v297 v301) fun v302=>aL v302 (bd (aU BinOp.add x6 (i64 1)) fun v303=>kD x1 x2 x3 x4 x5 v303 x7 R st) (I27 x1 x2 x3 x4 x5 x6 x7 R st)) (I27 x1 x2
 x3 x4 x5 x6 x7 R st))
theorem xG (x1 x2 x3 x4 x5 x6 x7:LV) (R:LV.RT) (st:aa):bK Tryz.prog [.cell 2 49] R [0,8,9,10,11,12,13,14,15,16,17,18,19,20,21,22,23,24,25,26,27,28,29,30,31,32,33,34,35,36,37,38,39,40,41,42,43,44,45,46,47,48,49,50,51,52,53,54,55,56,57,58,59,60,61,62,63,64,65,66,67,68,69,70,71,72,73,74,75,76,77,78,79,80,81,82,83,84,85,86,87,88,89,90,91,92,93,94,95,96,97,98,99,100,101,102,103,104,105,106,107,108,109,110,111,112,113,114,115,116,117,118,119,120,121,122,123,124,125,126,127,128,129,130,131,132,133,134,135,136,137,138,139,140,141,142,143,144,145,146,147,148,149,150,151,152,153,154,155,156,157,158,159,160] [] 3000 (bB (bL Tryz.f27 8)) (.aJ::x1::x2::x3::x4::x5::x6::x7::(LV.jk 153 [])) st=se x1 x2 x3 x4 x5 x6 x7 R st:=by kernel_rfl
theorem zU (x1 x2 x3 x4 x5 x6 x7:LV) {R:LV.RT} {st:aa} (h:se x1 x2 x3 x4 x5 x6 x7 R st):uR x1 x2 x3 x4 x5 x6 x7 R st:=
 LT.at ag 3000 (Eq.mpr (xG x1 x2 x3 x4 x5 x6 x7 R st) h)
abbrev mE (es:List (List UInt8 × T)):List (LV × LV):=es.map fun e=>(.str e.1,vT e.2)
theorem yZ {es:List (List UInt8 × T)} {k:List UInt8}:cY (.str k) (mE es)=some ((T.find es k).map vT):=by
 induction es with
 | nil=>rfl
 | cons e es ih=>
  simp only[mE,List.map_cons,cY,fJ]
  by_cases h:k=e.1
  ·subst h;simp[T.find]
  ·have h1:(k==e.1)=false:=by simpa using h
   have h2:(e.1==k)=false:=by simpa using Ne.symm h
   simp only[h1]
   rw[show cY (.str k) (es.map fun e=>(LV.str e.1,vT e.2))=some ((T.find es k).map vT) from ih]
   simp only[T.find,List.find?_cons,h2]
theorem A6 {es:List (List UInt8 × T)} {k:List UInt8} {v:LV} (h:k ∉ es.map (·.1)):ow (.str k) v (mE es)=some (mE es++[(.str k,v)]):=by
 induction es with
 | nil=>rfl
 | cons e es ih=>
  simp only[List.map_cons,List.mem_cons,not_or] at h
  have h1:(k==e.1)=false:=by simpa using h.1
  simp only[mE,List.map_cons,ow,fJ,h1]
  rw[show ow (.str k) v (es.map fun e=>(LV.str e.1,vT e.2))=some (mE es++[(.str k,v)]) from ih h.2]
  rfl
theorem tS {es:List (List UInt8 × T)} (hn:(es.map (·.1)).Nodup):(cA (es.map fun e=>LV.str e.1) []).isSome=true:=by
 have:=iH (ss:=es.map (·.1)) (seen:=[]) hn (by simp)
 rw[List.map_map] at this
 simp only[Function.comp_def] at this
 rw[this];rfl
theorem xH {st:aa} {o:Nat} {es es':List (List UInt8 × T)} {bs:List Nat} {n:Nat} (h:st[o]?=some (.map .rw (mE es') bs n)) (hp:es.Perm es') (hn:(es.map (·.1)).Nodup) :
  dp st (vT (.map es)) (.agg [.iface 173 (.map o)]):=by
 refine ⟨_,rfl,_,_,rfl,⟨_,rfl,.inl ⟨o,.rw,mE es',bs,n,mE es,rfl,h,rfl,hp.map _,tS hn,?_,?_⟩⟩,rfl⟩
 ·simp
 ·rw[kA]
  have:(mE es).map (·.2)=es.map fun e=>vT e.2:=by simp
  rw[this]
  exact bx _ (bP fun _ _=>bW)
theorem xI {es:List (List UInt8 × T)} (hn:(es.map (·.1)).Nodup) (hb:es.length≤big) {R:LV→aa→Prop} {r o:Nat} (hro:r≠o) (hR:∀ s,dp s (.tup [vT (.map es),i64 0]) (.tup [.agg [.iface 173 (.map o)],i64 0])→R (.tup [.agg [.iface 173 (.map o)],i64 0]) s) :
  ∀ (d i:Nat) (bs:List Nat) (n:Nat) (st:aa),i+d=es.length→st[r]?=some (.cells .rw [.nili])→st[o]?=some (.map .rw (mE (es.take i)) bs n)→
   uC (vL (es.map (·.2))) (.ptr r 0) (.map o) (sL (es.map (·.1))) (i64 es.length) (i64 i) R st:=by
 intro d
 induction d with
 | zero=>
  intro i bs n st hi hr ho
  apply zO
  have hi':i=es.length:=by omega
  subst hi'
  have:¬ ((es.length:Int)<es.length):=by omega
  simp only[uI,aq,aY,ad,bD]
  refine ⟨fun h=>absurd h this,fun _=>?_⟩
  rw[List.take_length] at ho
  have e1:bG (aV (aQ [(0,1)]) [LV.nili] [(0,LV.iface 173 (.map o))])=some (.agg [.iface 173 (.map o)]):=rfl
  have hlt:=b6 hr
  have e2:stV st 1 (.ptr r 0) (.agg [.iface 173 (.map o)])=some (st.set r (.cells .rw [.iface 173 (.map o)])):=dE (vs:=[.iface 173 (.map o)]) hr (by simp) rfl rfl
  have e3:ldA (st.set r (.cells .rw [.iface 173 (.map o)])) (.ptr r 0) 1=some (.agg [.iface 173 (.map o)]):=eE (cN hr) (by simp)
  simp only[e1,ad,e2,aB,aj,e3]
  have ho':(st.set r (.cells .rw [.iface 173 (.map o)]))[o]?=some (.map .rw (mE es) bs n):=by rw[fy hro];exact ho
  exact hR _ ⟨_,rfl,_,_,rfl,xH ho' (.refl _) hn,_,_,rfl,rfl,rfl⟩
 | succ d ih=>
  intro i bs n st hi hr ho
  apply zO
  have hlt:i<es.length:=by omega
  obtain ⟨⟨k,t⟩,hk⟩:∃ e,es[i]=e:=⟨_,rfl⟩
  have hget:es[i]?=some (k,t):=by rw[ba hlt,hk]
  have hks:((es.map (·.1)).map LV.str)[i*1]?=some (.str k):=by simp[hget]
  have hvs:(cn (es.map (·.2)))[i*1]?=some (lvT t):=by rw[sd];simp[hget]
  have hlt':i<(es.map (·.1)).length:=by simpa using hlt
  have hlt2:i<(es.map (·.2)).length:=by simpa using hlt
  have e0:bF 1 (sL (es.map (·.1))) (i64 i)=some (.iptr ((es.map (·.1)).map .str) (i*1)):=dj hlt'
  have e1:bF 1 (vL (es.map (·.2))) (i64 i)=some (.iptr (cn (es.map (·.2))) (i*1)):=dj hlt2
  have hnk:k ∉ (es.take i).map (·.1):=by
   have hsp:es=es.take i++(k,t)::es.drop (i+1):=by
    conv=>lhs;rw[← List.take_append_drop i es]
    rw[gf hlt,hk]
   rw[hsp] at hn
   simp only[List.map_append,List.map_cons] at hn
   have h1:=(List.nodup_append.1 hn).2.2
   exact fun hc=>h1 k hc k (by simp) rfl
  have hf:T.find (es.take i) k=none:=T.wb.2 hnk
  have e2:jb st true (some (.agg [.nili])) (.map o) (.str k) true=some (.tup [vT .null,.bool false]):=by
   show uf _ _ _ _ _ _=_
   simp only[uf,plainKey,if_true,mapOf,ho,yZ,hf,Option.map_none]
   rfl
  have e3:stV (st++[al.cells .rw [LV.nili]]) 1 (.ptr st.length 0) (vT .null)=some (st++[al.cells .rw [LV.nili]]):=by
   have h:=dE (st:=st++[al.cells .rw [LV.nili]]) (o:=st.length) (k:=0) (m:=.rw) (l:=[LV.nili]) (vs:=[LV.nili]) (n:=1) bq (by simp) rfl rfl
   refine h.trans ?_
   congr 1
   simp[bu]
  have hvl:i*1+1≤(cn (es.map (·.2))).length:=by rw[er];omega
  have e4:ldA (st++[al.cells .rw [LV.nili]]) (.iptr (cn (es.map (·.2))) (i*1)) 1=some (vT t):=by
   rw[nO hvl]
   congr 2
   rw[List.take_one,List.head?_drop,hvs]
   rfl
  have ho1:(st++[al.cells .rw [LV.nili]])[o]?=some (.map .rw (mE (es.take i)) bs n):=cF ho
  have hnx:mE (es.take (i+1))=mE (es.take i)++[(.str k,vT t)]:=by
   rw[List.take_add_one];simp[mE,hget]
  have e5:ox (st++[al.cells .rw [LV.nili]]) true (.map o) (.str k) (vT t)=some ((st++[al.cells .rw [LV.nili]]).set o (.map .rw (mE (es.take (i+1))) (bs++[n]) (n+1))):=by
   simp only[ox,plainKey,if_true,ho1,A6 hnk]
   rw[hnx]
   congr 2
   unfold jN
   rw[if_neg (by simp)]
  simp only[uI,aq,aY,ad,bD,e0,fD,hks,e2,aO,bh,bE,dB,e3,aB,aj,aA,e1,e4,e5,bI,bR (show i<2 ^ 40 by unfold big at hb;omega)]
  refine ⟨fun _=>?_,fun h=>absurd (by omega:(i:Int)<es.length) h⟩
  refine ih (i+1) (bs++[n]) (n+1) _ (by omega) ?_ ?_
  ·rw[fy (Ne.symm hro)];exact cF hr
  ·exact cN ho1
theorem A8 {es:List (List UInt8 × T)} (hn:(es.map (·.1)).Nodup) (hb:es.length≤big):Pu Tryz.prog 72 [sL (es.map (·.1)),vL (es.map (·.2))] (.tup [vT (.map es),i64 0]):=by
 refine Pu.of (c72 _ _ ?_) (by simp[LV.ar,LV.plain];exact bP fun _ _=>rfl) (by simp[LV.plain,LV.ar])
 have e:(((es.map (·.1)).length:Int) != ((es.map (·.2)).length:Int))=false:=by simp
 simp only[w72,dB,bj,ad,aq,cC,e,aA,wL]
 rw[cb]
 exact xI hn hb (by decide) (fun s h=>h) es.length 0 [] 0 _ (by omega) rfl rfl
end Go.Proofs.YtknegckgmklnhaaGreatDoor
namespace Go.Proofs.YtknegckgmklnhaaGreatDoor
open Go Go.CP Classical
set_option maxRecDepth 100000
def dR {α β:Type} (p:α→β→Prop):List α→List β→Prop
 | [],[]=>True
 | a::l,b::m=>p a b∧dR p l m
 | _,_=>False
theorem dR.len {α β:Type} {p:α→β→Prop}:∀ {a:List α} {b:List β},dR p a b→a.length=b.length
 | [],[],_=>rfl
 | _::_,_::_,h=>by simp[dR.len h.2]
 | [],_::_,h=>h.elim
 | _::_,[],h=>h.elim
theorem dR.eq {α:Type}:∀ {a b:List α},dR (· = ·) a b↔a=b
 | [],[]=>by simp[dR]
 | _::_,_::_=>by simp[dR,dR.eq]
 | [],_::_=>by simp[dR]
 | _::_,[]=>by simp[dR]
theorem dR.drop {α β:Type} {p:α→β→Prop} {a:List α} {b:List β} {i:Nat} {x:α} {y:β} (hx:a[i]?=some x) (hy:b[i]?=some y):dR p (a.drop i) (b.drop i)↔p x y∧dR p (a.drop (i+1)) (b.drop (i+1)):=by
 obtain ⟨h1,h2⟩:=List.getElem?_eq_some_iff.1 hx
 obtain ⟨h3,h4⟩:=List.getElem?_eq_some_iff.1 hy
 rw[gf h1,gf h3,h2,h4]
 rfl
theorem lC {l:List T} {i:Nat} {t:T} {st:aa} (h:l[i]?=some t):ldA st (.iptr (cn l) (i*1)) 1=some (vT t):=by
 have hlt:=(List.getElem?_eq_some_iff.1 h).1
 rw[nO (by rw[er];omega)]
 congr 2
 rw[List.take_one,List.head?_drop,sd,Nat.mul_one,h]
 rfl
theorem kE {st:aa} {t:T} {x:LV}:stV (st++[al.cells .rw [x]]) 1 (.ptr st.length 0) (vT t)=some (st++[al.cells .rw [lvT t]]):=by
 have h:=dE (st:=st++[al.cells .rw [x]]) (o:=st.length) (k:=0) (m:=.rw) (l:=[x]) (vs:=[lvT t]) (n:=1) bq (by simp) (by simp[fj]) rfl
 refine h.trans ?_
 congr 1
 simp[bu]
theorem fS {st:aa} {t:T}:ldA (st++[al.cells .rw [lvT t]]) (.ptr st.length 0) 1=some (vT t):=eE bq (by simp)
theorem oc {st:aa} {t:T} {y:al}:ldA (st++[al.cells .rw [lvT t]]++[y]) (.ptr st.length 0) 1=some (vT t):=eE (cF bq) (by simp)
theorem y0 {p:T→T→Prop} {l l':List T} (hl:l.length=l'.length) (hb:l.length≤big) {g:FuncId} (hg:∀ (i:Nat) x y,l[i]?=some x→l'[i]?=some y→Pu Tryz.prog g [vT x,vT y] (.bool (decide (p x y)))) {R:LV→aa→Prop} :
  ∀ (d i:Nat) (st:aa),i+d=l.length→(∀ s,R (.bool (decide (dR p (l.drop i) (l'.drop i)))) s)→qa (vL l') (.fn (.func g) [] []) (vL l) (i64 l.length) (i64 i) R st:=by
 intro d
 induction d with
 | zero=>
  intro i st hi hR
  apply xf
  have:¬ ((i:Int)<l.length):=by omega
  simp only[qf,aq,aY,ad,bD]
  refine ⟨fun h=>absurd h this,fun _=>?_⟩
  have:=hR st
  rw[dw (by omega),dw (by omega)] at this
  rwa [decide_eq_true (by trivial)] at this
 | succ d ih=>
  intro i st hi hR
  apply xf
  have hlt:i<l.length:=by omega
  have hx:l[i]?=some l[i]:=ba hlt
  have hy:l'[i]?=some (l'[i]'(by omega)):=ba (by omega)
  generalize l[i]=x at hx
  generalize l'[i]'(by omega)=y at hy
  have e1:bF 1 (vL l) (i64 i)=some (.iptr (cn l) (i*1)):=dj hlt
  have e2:bF 1 (vL l') (i64 i)=some (.iptr (cn l') (i*1)):=dj (by omega)
  have e3:jO (.fn (.func g) [] []) [vT x,vT y]=some (g,[vT x,vT y]):=rfl
  have hd:=dR.drop (p:=p) hx hy
  simp only[qf,aq,aY,ad,bD,e1,e2,lC hx,lC hy,dB,kE,aB,aj,fS,oc,e3]
  refine ⟨fun _=>?_,fun h=>absurd (by omega:(i:Int)<l.length) h⟩
  refine (hg i x y hx hy).call ?_
  simp only[cM,ad,bI,bR (show i<2 ^ 40 by unfold big at hb;omega),bA]
  refine ⟨fun h=>?_,fun h=>?_⟩
  ·have hp:¬ p x y:=by simpa using h
   have:=hR (st++[.cells .rw [lvT x]]++[.cells .rw [lvT y]])
   rwa [decide_eq_false (fun k=>hp (hd.1 k).1)] at this
  ·have hp:p x y:=by simpa using h
   refine ih (i+1) _ (by omega) fun s=>?_
   have:=hR s
   have e:dR p (l.drop i) (l'.drop i)=dR p (l.drop (i+1)) (l'.drop (i+1)):=propext (hd.trans ⟨fun k=>k.2,fun k=>⟨hp,k⟩⟩)
   rwa [e] at this
theorem y7 {p:T→T→Prop} {l l':List T} (hl:l.length=l'.length) (hb:l.length≤big) {g:FuncId} (hg:∀ (i:Nat) x y,l[i]?=some x→l'[i]?=some y→Pu Tryz.prog g [vT x,vT y] (.bool (decide (p x y)))) {R:LV→aa→Prop} :
  ∀ (d i:Nat) (st:aa),i+d=l.length→(∀ s,R (.bool (decide (dR p (l.drop i) (l'.drop i)))) s)→qd (vL l') (.fn (.func g) [] []) (vL l) (i64 l.length) (i64 i) R st:=by
 intro d
 induction d with
 | zero=>
  intro i st hi hR
  apply xj
  have:¬ ((i:Int)<l.length):=by omega
  simp only[qj,aq,aY,ad,bD]
  refine ⟨fun h=>absurd h this,fun _=>?_⟩
  have:=hR st
  rw[dw (by omega),dw (by omega)] at this
  rwa [decide_eq_true (by trivial)] at this
 | succ d ih=>
  intro i st hi hR
  apply xj
  have hlt:i<l.length:=by omega
  have hx:l[i]?=some l[i]:=ba hlt
  have hy:l'[i]?=some (l'[i]'(by omega)):=ba (by omega)
  generalize l[i]=x at hx
  generalize l'[i]'(by omega)=y at hy
  have e1:bF 1 (vL l) (i64 i)=some (.iptr (cn l) (i*1)):=dj hlt
  have e2:bF 1 (vL l') (i64 i)=some (.iptr (cn l') (i*1)):=dj (by omega)
  have e3:jO (.fn (.func g) [] []) [vT x,vT y]=some (g,[vT x,vT y]):=rfl
  have hd:=dR.drop (p:=p) hx hy
  simp only[qj,aq,aY,ad,bD,e1,e2,lC hx,lC hy,dB,kE,aB,aj,fS,oc,e3]
  refine ⟨fun _=>?_,fun h=>absurd (by omega:(i:Int)<l.length) h⟩
  refine (hg i x y hx hy).call ?_
  simp only[cM,ad,bI,bR (show i<2 ^ 40 by unfold big at hb;omega),bA]
  refine ⟨fun h=>?_,fun h=>?_⟩
  ·have hp:¬ p x y:=by simpa using h
   have:=hR (st++[.cells .rw [lvT x]]++[.cells .rw [lvT y]])
   rwa [decide_eq_false (fun k=>hp (hd.1 k).1)] at this
  ·have hp:p x y:=by simpa using h
   refine ih (i+1) _ (by omega) fun s=>?_
   have:=hR s
   have e:dR p (l.drop i) (l'.drop i)=dR p (l.drop (i+1)) (l'.drop (i+1)):=propext (hd.trans ⟨fun k=>k.2,fun k=>⟨hp,k⟩⟩)
   rwa [e] at this
theorem od {l l':List T} {g:FuncId}:LV.ar [vL l,vL l',.fn (.func g) [] []]=true:=by simp[LV.ar,LV.plain]
theorem A9 {p:T→T→Prop} {l l':List T} (hb:l.length≤big) {g:FuncId} (hg:∀ (i:Nat) x y,l[i]?=some x→l'[i]?=some y→Pu Tryz.prog g [vT x,vT y] (.bool (decide (p x y)))) :
  Pu Tryz.prog 113 [vL l,vL l',.fn (.func g) [] []] (.bool (decide (dR p l l'))):=by
 refine Pu.of (CF _ _ _ ?_) od rfl
 simp only[AP,bj,ad,aq,cC,bA]
 refine ⟨fun h=>?_,fun h=>?_⟩
 ·have hne:l.length≠l'.length:=fun e=>by simp[e] at h
  rw[decide_eq_false (fun k=>hne k.len)];rfl
 ·have he:l.length=l'.length:=by
   have h1:(l.length:Int)=l'.length:=by simpa using h
   omega
  exact y0 he hb hg l.length 0 _ (by omega) fun s=>rfl
theorem Ba {p:T→T→Prop} {l l':List T} (hb:l.length≤big) {g:FuncId} (hg:∀ (i:Nat) x y,l[i]?=some x→l'[i]?=some y→Pu Tryz.prog g [vT x,vT y] (.bool (decide (p x y)))) :
  Pu Tryz.prog 122 [vL l,vL l',.fn (.func g) [] []] (.bool (decide (dR p l l'))):=by
 refine Pu.of (CM _ _ _ ?_) od rfl
 simp only[AZ,bj,ad,aq,cC,bA]
 refine ⟨fun h=>?_,fun h=>?_⟩
 ·have hne:l.length≠l'.length:=fun e=>by simp[e] at h
  rw[decide_eq_false (fun k=>hne k.len)];rfl
 ·have he:l.length=l'.length:=by
   have h1:(l.length:Int)=l'.length:=by simpa using h
   omega
  exact y7 he hb hg l.length 0 _ (by omega) fun s=>rfl
end Go.Proofs.YtknegckgmklnhaaGreatDoor
namespace Go.Proofs
open Go.Shelf
def Tryz.iI:Go.Shelf.Ren:=⟨fun|7=>116|10=>166|n=>n,fun|23=>173|26=>9|3=>57|28=>180|0=>0|27=>179|33=>38|4=>4|n=>n,fun|n=>n⟩
theorem Tryz.qq:Go.Proofs.SlLaysZ.n7 Tryz.prog Tryz.iI:={
 mixed:=by kernel_rfl
 f7:=⟨Tryz.f116.name,by decide,Tryz.func116.trans (congrArg some (by kernel_rfl))⟩
 f10:=⟨Tryz.f166.name,by decide,Tryz.func166.trans (congrArg some (by kernel_rfl))⟩
 t0:=Tryz.underlying0
 a0:=Tryz.isAgg0
 z0:=Tryz.sizeOf0
 v0:=Tryz.zeroValue0
 t4:=Tryz.underlying4
 a4:=Tryz.isAgg4
 z4:=Tryz.sizeOf4
 v4:=Tryz.zeroValue4
 t23:=Tryz.underlying173
 a23:=Tryz.isAgg173
 z23:=Tryz.sizeOf173
 v23:=Tryz.zeroValue173
 t26:=Tryz.underlying9
 a26:=Tryz.isAgg9
 z26:=Tryz.sizeOf9
 v26:=Tryz.zeroValue9
 t27:=Tryz.underlying179
 a27:=Tryz.isAgg179
 z27:=Tryz.sizeOf179
 v27:=Tryz.zeroValue179
 t28:=Tryz.underlying180
 a28:=Tryz.isAgg180
 z28:=Tryz.sizeOf180
 v28:=Tryz.zeroValue180
 t33:=Tryz.underlying38
 a33:=Tryz.isAgg38
 z33:=Tryz.sizeOf38
 v33:=Tryz.zeroValue38 }
def Tryz.js:Go.Shelf.Ren:=⟨fun|6=>115|8=>164|9=>165|11=>198|13=>200|12=>199|23=>255|24=>256|14=>246|15=>247|16=>248|17=>249|18=>250|19=>251|20=>252|21=>253|22=>254|25=>275|26=>276|27=>277|28=>278|29=>279|30=>280|31=>294|n=>n,fun|26=>9|28=>180|24=>26|0=>0|3=>3|37=>262|48=>312|50=>295|4=>4|40=>306|39=>305|45=>132|5=>5|9=>9|51=>330|55=>334|57=>349|58=>350|33=>38|n=>n,fun|n=>n⟩
theorem Tryz.we:Go.Proofs.SlLaysZ.n6 Tryz.prog Tryz.js:={
 mixed:=by kernel_rfl
 f6:=⟨Tryz.f115.name,by decide,Tryz.func115.trans (congrArg some (by kernel_rfl))⟩
 f8:=⟨Tryz.f164.name,by decide,Tryz.func164.trans (congrArg some (by kernel_rfl))⟩
 f11:=⟨Tryz.f198.name,by decide,Tryz.func198.trans (congrArg some (by kernel_rfl))⟩
 t0:=Tryz.underlying0
 a0:=Tryz.isAgg0
 z0:=Tryz.sizeOf0
 v0:=Tryz.zeroValue0
 t24:=Tryz.underlying26
 a24:=Tryz.isAgg26
 z24:=Tryz.sizeOf26
 v24:=Tryz.zeroValue26
 t26:=Tryz.underlying9
 a26:=Tryz.isAgg9
 z26:=Tryz.sizeOf9
 v26:=Tryz.zeroValue9
 t28:=Tryz.underlying180
 a28:=Tryz.isAgg180
 z28:=Tryz.sizeOf180
 v28:=Tryz.zeroValue180
 i26:=by kernel_rfl }
def Tryz.sf:Go.Shelf.Ren:=⟨fun|6=>165|8=>200|9=>199|19=>255|20=>256|21=>246|22=>247|23=>248|24=>249|25=>250|26=>251|27=>252|28=>253|29=>254|36=>275|31=>276|32=>277|37=>278|38=>279|39=>280|41=>294|n=>n,fun|27=>26|29=>9|3=>3|32=>262|26=>26|0=>0|44=>312|46=>295|4=>4|36=>306|35=>305|41=>132|5=>5|9=>9|53=>330|57=>334|63=>349|64=>350|n=>n,fun|n=>n⟩
theorem Tryz.uU:Go.Proofs.SlLaysM.n6 Tryz.prog Tryz.sf:={
 mixed:=by kernel_rfl
 f6:=⟨Tryz.f165.name,by decide,Tryz.func165.trans (congrArg some (by kernel_rfl))⟩
 f8:=Tryz.func200.trans (congrArg some (by kernel_rfl))
 f9:=⟨Tryz.f199.name,by decide,Tryz.func199.trans (congrArg some (by kernel_rfl))⟩
 f19:=Tryz.func255.trans (congrArg some (by kernel_rfl))
 f20:=Tryz.func256.trans (congrArg some (by kernel_rfl))
 f21:=⟨Tryz.f246.name,by decide,Tryz.func246.trans (congrArg some (by kernel_rfl))⟩
 f22:=⟨Tryz.f247.name,by decide,Tryz.func247.trans (congrArg some (by kernel_rfl))⟩
 f23:=⟨Tryz.f248.name,by decide,Tryz.func248.trans (congrArg some (by kernel_rfl))⟩
 f24:=⟨Tryz.f249.name,by decide,Tryz.func249.trans (congrArg some (by kernel_rfl))⟩
 f25:=⟨Tryz.f250.name,by decide,Tryz.func250.trans (congrArg some (by kernel_rfl))⟩
 f26:=⟨Tryz.f251.name,by decide,Tryz.func251.trans (congrArg some (by kernel_rfl))⟩
 f27:=⟨Tryz.f252.name,by decide,Tryz.func252.trans (congrArg some (by kernel_rfl))⟩
 f28:=⟨Tryz.f253.name,by decide,Tryz.func253.trans (congrArg some (by kernel_rfl))⟩
 f29:=⟨Tryz.f254.name,by decide,Tryz.func254.trans (congrArg some (by kernel_rfl))⟩
 f31:=Tryz.func276.trans (congrArg some (by kernel_rfl))
 f32:=Tryz.func277.trans (congrArg some (by kernel_rfl))
 f36:=⟨Tryz.f275.name,by decide,Tryz.func275.trans (congrArg some (by kernel_rfl))⟩
 f37:=⟨Tryz.f278.name,by decide,Tryz.func278.trans (congrArg some (by kernel_rfl))⟩
 f38:=⟨Tryz.f279.name,by decide,Tryz.func279.trans (congrArg some (by kernel_rfl))⟩
 f39:=⟨Tryz.f280.name,by decide,Tryz.func280.trans (congrArg some (by kernel_rfl))⟩
 f41:=⟨Tryz.f294.name,by decide,Tryz.func294.trans (congrArg some (by kernel_rfl))⟩
 t0:=Tryz.underlying0
 a0:=Tryz.isAgg0
 z0:=Tryz.sizeOf0
 v0:=Tryz.zeroValue0
 t3:=Tryz.underlying3
 a3:=Tryz.isAgg3
 z3:=Tryz.sizeOf3
 v3:=Tryz.zeroValue3
 t4:=Tryz.underlying4
 a4:=Tryz.isAgg4
 z4:=Tryz.sizeOf4
 v4:=Tryz.zeroValue4
 t5:=Tryz.underlying5
 a5:=Tryz.isAgg5
 z5:=Tryz.sizeOf5
 v5:=Tryz.zeroValue5
 t9:=Tryz.underlying9
 a9:=Tryz.isAgg9
 z9:=Tryz.sizeOf9
 v9:=Tryz.zeroValue9
 t26:=Tryz.underlying26
 a26:=Tryz.isAgg26
 z26:=Tryz.sizeOf26
 v26:=Tryz.zeroValue26
 t27:=Tryz.underlying26
 a27:=Tryz.isAgg26
 z27:=Tryz.sizeOf26
 v27:=Tryz.zeroValue26
 t29:=Tryz.underlying9
 a29:=Tryz.isAgg9
 z29:=Tryz.sizeOf9
 v29:=Tryz.zeroValue9
 t32:=Tryz.underlying262
 a32:=Tryz.isAgg262
 z32:=Tryz.sizeOf262
 v32:=Tryz.zeroValue262
 t35:=Tryz.underlying305
 a35:=Tryz.isAgg305
 z35:=Tryz.sizeOf305
 v35:=Tryz.zeroValue305
 t36:=Tryz.underlying306
 a36:=Tryz.isAgg306
 z36:=Tryz.sizeOf306
 v36:=Tryz.zeroValue306
 t41:=Tryz.underlying132
 a41:=Tryz.isAgg132
 z41:=Tryz.sizeOf132
 v41:=Tryz.zeroValue132
 t44:=Tryz.underlying312
 a44:=Tryz.isAgg312
 z44:=Tryz.sizeOf312
 v44:=Tryz.zeroValue312
 t46:=Tryz.underlying295
 a46:=Tryz.isAgg295
 z46:=Tryz.sizeOf295
 v46:=Tryz.zeroValue295
 t53:=Tryz.underlying330
 a53:=Tryz.isAgg330
 z53:=Tryz.sizeOf330
 v53:=Tryz.zeroValue330
 t57:=Tryz.underlying334
 a57:=Tryz.isAgg334
 z57:=Tryz.sizeOf334
 v57:=Tryz.zeroValue334
 t63:=Tryz.underlying349
 a63:=Tryz.isAgg349
 z63:=Tryz.sizeOf349
 v63:=Tryz.zeroValue349
 t64:=Tryz.underlying350
 a64:=Tryz.isAgg350
 z64:=Tryz.sizeOf350
 v64:=Tryz.zeroValue350 }
end Go.Proofs
