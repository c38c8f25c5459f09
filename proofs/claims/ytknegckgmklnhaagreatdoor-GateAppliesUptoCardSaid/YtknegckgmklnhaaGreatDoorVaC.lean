/- Parts of the proof. -/
import Derived.Test.YtknegckgmklnhaaGreatDoorVaV6
namespace Go.Proofs.YtknegckgmklnhaaGreatDoor
open Go Go.CP
set_option maxRecDepth 100000
def Ei (x1 x2 x3 x4 x5 x6 x7:LV) (R:LV.RT) (st:aa):Prop:=LT Tryz.prog [.cell 2 49] (cR Tryz.f27 2) R (.aY::x1::x2::x3::x4::x5::x6::x7::(LV.jk 153 [])) st
def pb (x1 x2 x3 x4 x5 x6 x7:LV) (R:LV.RT) (st:aa):Prop:=LT Tryz.prog [.cell 2 49] (cR Tryz.f27 5) R (.aY::x1::x2::x3::x4::x5::x6::x7::(LV.jk 153 [])) st
def Ek (x1 x2 x3 x4 x5 x6 x7:LV) (R:LV.RT) (st:aa):Prop:=LT Tryz.prog [.cell 2 49] (cR Tryz.f27 8) R (.aY::x1::x2::x3::x4::x5::x6::x7::(LV.jk 153 [])) st
def w27 (a0:LV) (R:LV.RT) (st:aa):Prop:=
 bd2 (cu st a0) fun v0 st1=>nw st1 [i64 0,LV.bool false,i64 0,i64 0,LV.str [],LV.nils,LV.nils] fun v2 st3=>bd (ag 0 v0) fun v4=>bd (ld1 st3 v4) fun v5=>bd
 (al BinOp.eql v5 (i64 1)) fun v6=>aq v6 (bd (bh (aB (aF [(0,1),(1,1),(2,1),(3,1),(4,1),(5,1),(6,1)]) [i64 0,LV.bool false,i64 0,LV.int
 IntKind.i64 0,LV.str [],LV.nils,LV.nils] [(0,i64 1)])) fun v7=>bd2 (lmk (stV st3 7 v2 v7)) fun _v8 st9=>bd (ldA st9 v2 7) fun v10=>R v10 st9) (bd (al BinOp.eql v5 (i64 2)) fun
 v11=>aq v11 (bd (ag 1 v0) fun v12=>bd (ld1 st3 v12) fun v13=>bd (bh (aB (aF [(0,1),(1,1),(2,1),(3,1),(4,1),(5,1),(6,1)]) [i64 0,LV.bool false,i64 0,
 i64 0,LV.str [],LV.nils,LV.nils] [(0,i64 2),(1,v13)])) fun v14=>bd2 (lmk (stV st3 7 v2 v14)) fun _v15 st16=>bd (ldA st16 v2 7) fun v17=>R v17 st16) (bd (al BinOp.eql v5 (LV.int
 IntKind.i64 3)) fun v18=>aq v18 (bd (ag 2 v0) fun v19=>bd (ld1 st3 v19) fun v20=>bd (bh (aB (aF [(0,1),(1,1),(2,1),(3,1),(4,1),(5,1),(6,1)]) [i64 0,LV.bool false,LV.int
 IntKind.i64 0,i64 0,LV.str [],LV.nils,LV.nils] [(0,i64 3),(2,v20)])) fun v21=>bd2 (lmk (stV st3 7 v2 v21)) fun _v22 st23=>bd (ldA st23 v2 7) fun v24=>R v24 st23) (bd (al
 BinOp.eql v5 (i64 4)) fun v25=>aq v25 (bd (ag 2 v0) fun v26=>bd (ld1 st3 v26) fun v27=>bd (iw [v27,i64 (-9007199254740992)]) fun v28=>bd (kZ [v28,LV.int IntKind.i64
 9007199254740992]) fun v29=>bd (ag 3 v0) fun v30=>bd (ld1 st3 v30) fun v31=>bd (iw [v31,i64 (-9007199254740992)]) fun v32=>bd (kZ [v32,i64 9007199254740992]) fun v33=>bd
 (bh (aB (aF [(0,1),(1,1),(2,1),(3,1),(4,1),(5,1),(6,1)]) [i64 0,LV.bool false,i64 0,i64 0,LV.str [],LV.nils,LV.nils] [(0,i64 4),
 (2,v29),(3,v33)])) fun v34=>bd2 (lmk (stV st3 7 v2 v34)) fun _v35 st36=>bd (ldA st36 v2 7) fun v37=>R v37 st36) (bd (al BinOp.eql v5 (i64 5)) fun v38=>aq v38 (bd (ag 4 v0) fun v39=>bd
 (ld1 st3 v39) fun v40=>bd (bh (aB (aF [(0,1),(1,1),(2,1),(3,1),(4,1),(5,1),(6,1)]) [i64 0,LV.bool false,i64 0,i64 0,LV.str [],LV.nils,LV.nils]
 [(0,i64 5),(4,v40)])) fun v41=>bd2 (lmk (stV st3 7 v2 v41)) fun _v42 st43=>bd (ldA st43 v2 7) fun v44=>R v44 st43) (bd (al BinOp.eql v5 (i64 6)) fun v45=>aq v45 (bd (bh
 (aB (aF [(0,1),(1,1),(2,1),(3,1),(4,1),(5,1),(6,1)]) [i64 0,LV.bool false,i64 0,i64 0,LV.str [],LV.nils,LV.nils] [(0,i64 6)])) fun
 v46=>nw st3 [i64 0,LV.bool false,i64 0,i64 0,LV.str [],LV.nils,LV.nils] fun v47 st48=>bd2 (lmk (stV st48 7 v47 v46)) fun _v49 st50=>Ei v0 v2 v47 (LV.int
 IntKind.i64 0) (LV.tup []) (LV.tup []) (LV.tup []) R st50) (bd (al BinOp.eql v5 (i64 7)) fun v51=>aq v51 (bd (bh (aB (aF [(0,1),(1,1),(2,1),(3,1),(4,1),(5,1),(6,1)]) [LV.int
 IntKind.i64 0,LV.bool false,i64 0,i64 0,LV.str [],LV.nils,LV.nils] [(0,i64 7)])) fun v52=>nw st3 [i64 0,LV.bool false,i64 0,LV.int
 IntKind.i64 0,LV.str [],LV.nils,LV.nils] fun v53 st54=>bd2 (lmk (stV st54 7 v53 v52)) fun _v55 st56=>pb v0 v2 (LV.tup []) (LV.tup []) v53 (i64 0) (LV.tup []) R st56) (bd (bh (aB (aF
 [(0,1),(1,1),(2,1),(3,1),(4,1),(5,1),(6,1)]) [i64 0,LV.bool false,i64 0,i64 0,LV.str [],LV.nils,LV.nils] [])) fun v57=>bd2 (lmk (stV st3 7 v2 v57)) fun
 _v58 st59=>bd (ldA st59 v2 7) fun v60=>R v60 st59)))))))
theorem N9 (a0:LV) (R:LV.RT) (st:aa):cN Tryz.prog [.cell 2 49] R [0,8,9,10,11,12,13,14,15,16,17,18,19,20,21,22,23,24,25,26,27,28,29,30,31,32,33,34,35,36,37,38,39,40,41,42,43,44,45,46,47,48,49,50,51,52,53,54,55,56,57,58,59,60,61,62,63,64,65,66,67,68,69,70,71,72,73,74,75,76,77,78,79,80,81,82,83,84,85,86,87,88,89,90,91,92,93,94,95,96,97,98,99,100,101,102,103,104,105,106,107,108,109,110,111,112,113,114,115,116,117,118,119,120,121,122,123,124,125,126,127,128,129,130,131,132,133,134,135,136,137,138,139,140,141,142,143,144,145,146,147,148,149,150,151,152,153,154,155,156,157,158,159,160] [] 3000 [.code (bG Tryz.f27)] ([a0]++List.replicate (Tryz.f27.ntmps-1) aQ) st=w27 a0 R st:=by kernel_rfl
theorem c27 (a0:LV) {R:LV.RT} {st:aa} (h:w27 a0 R st):LZ 27 [a0] st R:=
 aw.of aJ Tryz.func27 (show Tryz.f27.body=some (bG Tryz.f27) by kernel_rfl) (by kernel_rfl) (show Tryz.f27.results.toList=[.cell 2 49] by kernel_rfl) (bq aJ 3000 (Eq.mpr (N9 a0 R st) h))
def El (x1 x2 x3 x4 x5 x6 x7:LV) (R:LV.RT) (st:aa):Prop:=
 bd (ag 5 x1) fun v0=>bd (ld1 st v0) fun v1=>bd (bB v1) fun v2=>bd (al BinOp.lss x4 v2) fun v3=>aq v3 (bd (ag 5 x3) fun v4=>bd (ld1 st v4) fun v5=>bd (ag 5 x1) fun v6=>bd (ld1 st v6) fun v7
 => bd (bn 7 v7 x4) fun v8=>bd (ldA st v8 7) fun v9=>LZ 27 [v9] st fun v10 st11=>ld1 st11 v4=some v5∧bd2 (cq st11 1 (aB (fun i=>some (i*7,7)) (List.replicate 1 [i64 0,
 LV.bool false,i64 0,i64 0,LV.str [],LV.nils,LV.nils]).flatten [(0,v10)])) fun v12 st13=>ld1 st13 v4=some v5∧bd2 (bo st13 7 96 Md.rw v5 v12) fun v14 st15=>bd (ag 5 x3)
 fun v16=>bd2 (lmk (stV st15 1 v16 v14)) fun _v17 st18=>bd (al BinOp.add x4 (i64 1)) fun v19=>Ei x1 x2 x3 v19 x5 x6 x7 R st18) (bd (ldA st x3 7) fun v20=>bd2 (lmk (stV st 7 x2 v20)) fun _v21
 st22=>bd (ldA st22 x2 7) fun v23=>R v23 st22)
theorem Ik (x1 x2 x3 x4 x5 x6 x7:LV) (R:LV.RT) (st:aa):cN Tryz.prog [.cell 2 49] R [0,8,9,10,11,12,13,14,15,16,17,18,19,20,21,22,23,24,25,26,27,28,29,30,31,32,33,34,35,36,37,38,39,40,41,42,43,44,45,46,47,48,49,50,51,52,53,54,55,56,57,58,59,60,61,62,63,64,65,66,67,68,69,70,71,72,73,74,75,76,77,78,79,80,81,82,83,84,85,86,87,88,89,90,91,92,93,94,95,96,97,98,99,100,101,102,103,104,105,106,107,108,109,110,111,112,113,114,115,116,117,118,119,120,121,122,123,124,125,126,127,128,129,130,131,132,133,134,135,136,137,138,139,140,141,142,143,144,145,146,147,148,149,150,151,152,153,154,155,156,157,158,159,160] [] 3000 (dK (cR Tryz.f27 2)) (.aY::x1::x2::x3::x4::x5::x6::x7::(LV.jk 153 [])) st=El x1 x2 x3 x4 x5 x6 x7 R st:=by kernel_rfl
theorem Mz (x1 x2 x3 x4 x5 x6 x7:LV) {R:LV.RT} {st:aa} (h:El x1 x2 x3 x4 x5 x6 x7 R st):Ei x1 x2 x3 x4 x5 x6 x7 R st:=
 LT.at aJ 3000 (Eq.mpr (Ik x1 x2 x3 x4 x5 x6 x7 R st) h)
def Em (x1 x2 x3 x4 x5 x6 _x7:LV) (R:LV.RT) (st:aa):Prop:=
 bd (ag 5 x1) fun v0=>bd (ld1 st v0) fun v1=>bd (bB v1) fun v2=>bd (al BinOp.lss x6 v2) fun v3=>aq v3 (bd (ag 6 x1) fun v4=>bd (ld1 st v4) fun v5=>bd (bB v5) fun v6=>bd (al BinOp.lss x6 v6)
 fun v7=>aq v7 (Ek x1 x2 x3 x4 x5 x6 (i64 0) R st) (bd (ldA st x5 7) fun v8=>bd2 (lmk (stV st 7 x2 v8)) fun _v9 st10=>bd (ldA st10 x2 7) fun v11=>R v11 st10)) (bd (ldA st x5 7) fun v12=>bd2
 (lmk (stV st 7 x2 v12)) fun _v13 st14=>bd (ldA st14 x2 7) fun v15=>R v15 st14)
theorem Il (x1 x2 x3 x4 x5 x6 x7:LV) (R:LV.RT) (st:aa):cN Tryz.prog [.cell 2 49] R [0,8,9,10,11,12,13,14,15,16,17,18,19,20,21,22,23,24,25,26,27,28,29,30,31,32,33,34,35,36,37,38,39,40,41,42,43,44,45,46,47,48,49,50,51,52,53,54,55,56,57,58,59,60,61,62,63,64,65,66,67,68,69,70,71,72,73,74,75,76,77,78,79,80,81,82,83,84,85,86,87,88,89,90,91,92,93,94,95,96,97,98,99,100,101,102,103,104,105,106,107,108,109,110,111,112,113,114,115,116,117,118,119,120,121,122,123,124,125,126,127,128,129,130,131,132,133,134,135,136,137,138,139,140,141,142,143,144,145,146,147,148,149,150,151,152,153,154,155,156,157,158,159,160] [] 3000 (dK (cR Tryz.f27 5)) (.aY::x1::x2::x3::x4::x5::x6::x7::(LV.jk 153 [])) st=Em x1 x2 x3 x4 x5 x6 x7 R st:=by kernel_rfl
theorem MA (x1 x2 x3 x4 x5 x6 x7:LV) {R:LV.RT} {st:aa} (h:Em x1 x2 x3 x4 x5 x6 x7 R st):pb x1 x2 x3 x4 x5 x6 x7 R st:=
 LT.at aJ 3000 (Eq.mpr (Il x1 x2 x3 x4 x5 x6 x7 R st) h)
def T27 (x1 x2 x3 x4 x5 x6 x7:LV) (R:LV.RT) (g:LV) (st:aa):Prop:=
 bd (ag 5 x5) fun v43=>bd (ld1 st v43) fun v44=>bd (ob3 none (some x7) none fun l h m=>dn st 7 v44 l h m) fun v45=>bd (ag 5 x1) fun v46=>bd (ld1 st v46) fun v47=>bd (bn 7 v47
 x6) fun v48=>bd (ldA st v48 7) fun v49=>bd2 (cq st 0 (aB (fun i=>some (i*7,7)) (List.replicate 0 [i64 0,LV.bool false,i64 0,i64 0,
 LV.str [],LV.nils,LV.nils]).flatten [])) fun v50 st51=>ldA st51 v48 7=some v49∧ld1 st51 v46=some v47∧(ob3 none (some x7) none fun l h m=>dn st51 7 v44 l h m)=some v45∧ld1 st51
 v43=some v44∧bd2 (bo st51 7 96 Md.rw v50 v45) fun v52 st53=>ldA st53 v48 7=some v49∧ld1 st53 v46=some v47∧LZ 27 [v49] st53 fun v54 st55=>bd2 (cq st55 1 (aB
 (fun i=>some (i*7,7)) (List.replicate 1 [i64 0,LV.bool false,i64 0,i64 0,LV.str [],LV.nils,LV.nils]).flatten [(0,v54)])) fun v56 st57=>bd2
 (bo st57 7 96 Md.rw v52 v56) fun v58 st59=>bd (ag 6 x5) fun v60=>bd (ld1 st59 v60) fun v61=>bd (ob3 (some x7) none none fun l h m=>dn st59 1 v61 l h m) fun v62=>bd2 (bo
 st59 1 16 Md.rw g v62) fun v63 st64=>bd (ag 6 x5) fun v65=>bd2 (lmk (stV st64 1 v65 v63)) fun _v66 st67=>bd (ag 5 x5) fun v68=>bd (ld1 st67 v68) fun v69=>bd (ob3 (some x7) none none
 fun l h m=>dn st67 7 v69 l h m) fun v70=>bd2 (bo st67 7 96 Md.rw v58 v70) fun v71 st72=>bd (ag 5 x5) fun v73=>bd2 (lmk (stV st72 1 v73 v71)) fun _v74 st75=>bd (al BinOp.add x6
 (i64 1)) fun v76=>pb x1 x2 x3 x4 x5 v76 x7 R st75
def I27 (x1 x2 x3 x4 x5 x6 x7:LV) (R:LV.RT) (st:aa):Prop:=
 bd (ag 6 x5) fun v28=>bd (ld1 st v28) fun v29=>bd (ob3 none (some x7) none fun l h m=>dn st 1 v29 l h m) fun v30=>bd (ag 6 x1) fun v31=>bd (ld1 st v31) fun v32=>bd (bn 1 v32
 x6) fun v33=>bd (ld1 st v33) fun v34=>(bd2 (cq st 1 (aB (fun i=>some (i*1,1)) (List.replicate 1 [LV.str []]).flatten [(0,v34)])) fun v35 st36=>(ob3 none (some x7) none fun l h m=>dn st36 1 v29 l h m)=some v30∧ld1 st36 v28=some v29∧bd2 (cq st36 0 (aB (fun i=>some (i*1,1)) (List.replicate 0 [LV.str []]).flatten [])) fun v37 st38=>ld1 st38 v33=some v34
 ∧ ld1 st38 v31=some v32∧(ob3 none (some x7) none fun l h m=>dn st38 1 v29 l h m)=some v30∧ld1 st38 v28=some v29∧bd2 (bo st38 1 16 Md.rw v37 v30) fun v39 st40=>ld1 st40 v33 =
 some v34∧ld1 st40 v31=some v32∧bd2 (bo st40 1 16 Md.rw v39 v35) fun v41 st42=>T27 x1 x2 x3 x4 x5 x6 x7 R v41 st42)∧bd2 (cq st 0 (aB (fun i=>some (i*1,1)) (List.replicate 0
 [LV.str []]).flatten [])) fun v77 st78=>ld1 st78 v33=some v34∧ld1 st78 v31=some v32∧(ob3 none (some x7) none fun l h m=>dn st78 1 v29 l h m)=some v30∧ld1 st78 v28=some v29∧
 (bd2 (cq st78 1 (aB (fun i=>some (i*1,1)) (List.replicate 1 [LV.str []]).flatten [(0,v34)])) fun v79 st80=>(ob3 none (some x7) none fun l h m=>dn st80 1 v29 l h m)=some v30∧
 ld1 st80 v28=some v29∧bd2 (bo st80 1 16 Md.rw v77 v30) fun v81 st82=>ld1 st82 v33=some v34∧ld1 st82 v31=some v32∧bd2 (bo st82 1 16 Md.rw v81 v79) fun v83 st84=>T27 x1 x2 x3
 x4 x5 x6 x7 R v83 st84)∧bd2 (bo st78 1 16 Md.rw v77 v30) fun v119 st120=>ld1 st120 v33=some v34∧ld1 st120 v31=some v32∧bd2 (cq st120 1 (aB (fun i=>some (i*1,1))
 (List.replicate 1 [LV.str []]).flatten [(0,v34)])) fun v121 st122=>(ob3 none (some x7) none fun l h m=>dn st122 1 v29 l h m)=some v30∧ld1 st122 v28=some v29∧bd2 (bo st122 1 16
 Md.rw v119 v121) fun v123 st124=>T27 x1 x2 x3 x4 x5 x6 x7 R v123 st124
def Ab (x1 x2 x3 x4 x5 x6 x7:LV) (R:LV.RT) (st:aa):Prop:=
 bd (ag 6 x5) fun v0=>bd (ld1 st v0) fun v1=>bd (bB v1) fun v2=>bd (al BinOp.lss x7 v2) fun v3=>aq v3 (bd (ag 6 x5) fun v4=>bd (ld1 st v4) fun v5=>bd (bn 1 v5 x7) fun v6=>bd (ld1 st v6) fun v7=>bd (ag 6 x1) fun v8=>bd (ld1 st v8) fun v9=>bd (bn 1 v9 x6) fun v10=>bd (ld1 st v10) fun v11=>bd (ck BinOp.lss v7 v11) fun v12=>aq v12 (bd (al BinOp.add
 x7 (i64 1)) fun v13=>Ek x1 x2 x3 x4 x5 x6 v13 R st) (bd (ag 6 x5) fun v14=>bd (ld1 st v14) fun v15=>bd (bB v15) fun v16=>bd (al BinOp.lss x7 v16) fun v17=>aq v17
 (bd (ag 6 x5) fun v18=>bd (ld1 st v18) fun v19=>bd (bn 1 v19 x7) fun v20=>bd (ld1 st v20) fun v21=>bd (ag 6 x1) fun v22=>bd (ld1 st v22) fun v23=>bd (bn 1 v23 x6) fun v24=>bd
 (ld1 st v24) fun v25=>bd (ck BinOp.eql v21 v25) fun v26=>aq v26 (bd (al BinOp.add x6 (i64 1)) fun v27=>pb x1 x2 x3 x4 x5 v27 x7 R st) (I27 x1 x2 x3 x4 x5 x6 x7 R st))
 (I27 x1 x2 x3 x4 x5 x6 x7 R st))) (bd (ag 6 x5) fun v290=>bd (ld1 st v290) fun v291=>bd (bB v291) fun v292=>bd (al BinOp.lss x7 v292) fun v293=>aq v293 (bd (ag 6 x5) fun v294=>bd (ld1 st v294) fun v295=>bd (bn 1 v295 x7) fun v296=>bd (ld1 st v296) fun v297=>bd (ag 6 x1) fun v298=>bd (ld1 st v298) fun v299=>bd (bn 1 v299 x6) fun v300=>bd (ld1 st v300) fun
 v301=>bd (ck BinOp.eql v297 v301) fun v302=>aq v302 (bd (al BinOp.add x6 (i64 1)) fun v303=>pb x1 x2 x3 x4 x5 v303 x7 R st) (I27 x1 x2 x3 x4 x5 x6 x7 R st)) (I27 x1 x2
 x3 x4 x5 x6 x7 R st))
theorem Im (x1 x2 x3 x4 x5 x6 x7:LV) (R:LV.RT) (st:aa):cN Tryz.prog [.cell 2 49] R [0,8,9,10,11,12,13,14,15,16,17,18,19,20,21,22,23,24,25,26,27,28,29,30,31,32,33,34,35,36,37,38,39,40,41,42,43,44,45,46,47,48,49,50,51,52,53,54,55,56,57,58,59,60,61,62,63,64,65,66,67,68,69,70,71,72,73,74,75,76,77,78,79,80,81,82,83,84,85,86,87,88,89,90,91,92,93,94,95,96,97,98,99,100,101,102,103,104,105,106,107,108,109,110,111,112,113,114,115,116,117,118,119,120,121,122,123,124,125,126,127,128,129,130,131,132,133,134,135,136,137,138,139,140,141,142,143,144,145,146,147,148,149,150,151,152,153,154,155,156,157,158,159,160] [] 3000 (dK (cR Tryz.f27 8)) (.aY::x1::x2::x3::x4::x5::x6::x7::(LV.jk 153 [])) st=Ab x1 x2 x3 x4 x5 x6 x7 R st:=by kernel_rfl
theorem MB (x1 x2 x3 x4 x5 x6 x7:LV) {R:LV.RT} {st:aa} (h:Ab x1 x2 x3 x4 x5 x6 x7 R st):Ek x1 x2 x3 x4 x5 x6 x7 R st:=
 LT.at aJ 3000 (Eq.mpr (Im x1 x2 x3 x4 x5 x6 x7 R st) h)
end Go.Proofs.YtknegckgmklnhaaGreatDoor
namespace Go.CP
theorem En {f:Option Nat} {sz n k:Nat} (hsz:0<sz) (hk:k≤n) (hn:f=none→n=0) :
  ∃ y,(∀ st,dn st sz (osl f sz n) none (some k) none=some y)∧∀ {m0:Md} {st:aa} {cs:List LV},ca m0 st f sz n cs→eA st sz y=some (k,cs.take (k*sz)):=by
 cases f with
 | none=>
  obtain rfl:=hn rfl
  obtain rfl:k=0:=by omega
  refine ⟨.nils,fun st=>rfl,fun {m0 st cs} h=>?_⟩
  simp[eA]
 | some o=>
  refine ⟨.sl o 0 k (.rest sz),fun st=>?_,fun {m0 st cs} h=>?_⟩
  ·simp[osl,dn,rB,nx,hk,hsz]
  ·obtain ⟨rest,h2⟩:=h.2
   have hl:=h.1
   have hle:k*sz≤n*sz:=Nat.mul_le_mul_right _ hk
   simp only[eA,h2]
   rw[if_pos (by simp;omega),List.drop_zero,List.take_append_of_le_length (by omega)]
theorem vl {f:Option Nat} {sz n k:Nat} (hsz:0<sz) (hk:k≤n) (hn:f=none→n=0) :
  ∃ y,(∀ st,dn st sz (osl f sz n) (some k) none none=some y)∧∀ {m0:Md} {st:aa} {cs:List LV},ca m0 st f sz n cs→eA st sz y=some (n-k,cs.drop (k*sz)):=by
 cases f with
 | none=>
  obtain rfl:=hn rfl
  obtain rfl:k=0:=by omega
  refine ⟨.nils,fun st=>rfl,fun {m0 st cs} h=>?_⟩
  have:cs=[]:=by have:=h.1;simp at this;exact this
  simp[eA,this]
 | some o=>
  rcases Nat.eq_zero_or_pos k with rfl|h0
  ·refine ⟨.sl o 0 n (.rest sz),fun st=>?_,fun {m0 st cs} h=>?_⟩
   ·simp[osl,dn,rB,nx,hsz]
   ·obtain ⟨rest,h2⟩:=h.2
    have hl:=h.1
    simp only[eA,h2]
    rw[if_pos (by simp;omega),List.drop_zero,List.take_append_of_le_length (by omega),List.take_of_length_le (by omega)]
    simp
  rcases Nat.lt_or_ge k n with hlt|hge
  ·refine ⟨.sl o (0+k*sz) (n-k) (.rest sz),fun st=>?_,fun {m0 st cs} h=>?_⟩
   ·have h1:¬ k=0:=by omega
    simp[osl,dn,rB,nx,hsz,hk,hlt,h1]
   ·obtain ⟨rest,h2⟩:=h.2
    have hl:=h.1
    have e1:k*sz+(n-k)*sz=n*sz:=by rw[← Nat.add_mul];congr 1;omega
    simp only[eA,h2]
    rw[if_pos (by simp;omega),aj,List.drop_append_of_le_length (by omega),List.take_append_of_le_length (by simp;omega),List.take_of_length_le (by simp;omega)]
  ·refine ⟨.emp,fun st=>?_,fun {m0 st cs} h=>?_⟩
   ·have h1:¬ k=0:=by omega
    have h2:¬ k<n:=by omega
    simp[osl,dn,rB,nx,hsz,hk,h1,h2]
   ·have hl:=h.1
    have e1:n-k=0:=by omega
    rw[e1,bR (by rw[hl];exact Nat.mul_le_mul_right _ hge)];rfl
theorem Io {k:Nat} {F:Option Nat→Option Nat→Option Nat→Option LV}:ob3 none (some (.int .i64 (k:Int))) none F=F none (some k) none:=by
 simp[ob3,fP]
theorem Ip {k:Nat} {F:Option Nat→Option Nat→Option Nat→Option LV}:ob3 (some (.int .i64 (k:Int))) none none F=F (some k) none none:=by
 simp[ob3,fP]
def Gr (st:aa) (a:Nat) (A:LV) (sz n:Nat) (cs:List LV):Prop:=
 (n=0∧cs=[]∧A=.sl a 0 0 (.ex 0)∧st[a]?=some (.cells .rw []))∨(A=osl (some a) sz n∧ca .rw st (some a) sz n cs)
theorem Gr.lt {st:aa} {a:Nat} {A:LV} {sz n:Nat} {cs:List LV} (h:Gr st a A sz n cs):a<st.length:=by
 rcases h with ⟨_,_,_,h⟩ | ⟨_,h⟩
 ·exact cA h
 ·exact h.lt
theorem Gr.fr {st st':aa} {a:Nat} {A:LV} {sz n:Nat} {cs:List LV} (h:Gr st a A sz n cs) {S:Nat→Prop} (hf:Fr st st' S) (hs:¬ S a):Gr st' a A sz n cs:=by
 rcases h with ⟨h1,h2,h3,h⟩ | ⟨h1,h⟩
 ·exact .inl ⟨h1,h2,h3,hf.get h hs⟩
 ·exact .inr ⟨h1,h.fr hf (by rintro o ⟨⟩;exact hs)⟩
theorem Gr.own {st:aa} {a:Nat} {A:LV} {sz n:Nat} {cs:List LV} (h:Gr st a A sz n cs) (hn:0<n):A=osl (some a) sz n∧ca .rw st (some a) sz n cs:=by
 rcases h with ⟨h1,_⟩ | h
 ·omega
 ·exact h
theorem Gr.new {st:aa} {sz:Nat}:Gr (st++[.cells .rw []]) st.length (.sl st.length 0 0 (.ex 0)) sz 0 []:=.inl ⟨rfl,rfl,rfl,by simp⟩
theorem Gr.append {st:aa} {a:Nat} {A:LV} {sz n bytes:Nat} {cs new:List LV} {x:LV} {k:Nat} (h:Gr st a A sz n cs) (hx:eA st sz x=some (k,new)) (hn:new.length=k*sz) (h1:new.all LV.one=true)
  (hr:eJ (n+k) bytes=true) :
  ∃ st2 A2 a2,bo st sz bytes .rw A x=some (A2,st2)∧Gr st2 a2 A2 sz (n+k) (cs++new)∧Fr st st2 (fun j=>j=a)∧(a2=a∨st.length≤a2):=by
 rcases Nat.eq_zero_or_pos k with rfl|hk
 ·have:new=[]:=by simpa using hn
  subst this
  refine ⟨st,A,a,?_,by simpa using h,Fr.refl,.inl rfl⟩
  rcases h with ⟨_,_,rfl,_⟩ | ⟨rfl,_⟩<;>simp[bo,hx,osl]
 ·rcases h with ⟨rfl,rfl,rfl,ha⟩ | ⟨rfl,ho⟩
  ·refine ⟨st++[.cells .rw ([]++new)],.sl st.length 0 (0+k) (.rest sz),st.length,?_,.inr ⟨rfl,?_,[],by simp⟩,Fr.app,.inr (Nat.le_refl _)⟩
   ·have hk0:¬ k=0:=by omega
    have hk1:¬ 0+k≤0:=by omega
    simp only[bo,hx,ha,hk0,if_false,hk1]
    rw[if_pos ⟨hr,by simp⟩];simp
   ·simp[hn]
  ·obtain ⟨st2,f2,e1,e2,e3,e4,_⟩:=ho.append (bytes:=bytes) hx hk hn h1 hr
   cases f2 with
   | none=>have:=e2.2;simp only at this;omega
   | some o2=>
    refine ⟨st2,_,o2,e1,.inr ⟨rfl,e2⟩,e3.mono fun j _ hj=>(Option.some.inj hj).symm,?_⟩
    rcases e4 o2 rfl with e|e
    ·exact .inl (Option.some.inj e).symm
    ·exact .inr e
end Go.CP
