/- Parts of the proof. -/
import Derived.Test.YtknegckgmklnhaaGreatDoorVbW
namespace Go.Proofs.YtknegckgmklnhaaGreatDoor
open Go Go.CP
set_option maxRecDepth 100000
def P161_5 (x2 x3:LV) (R:LV.RT) (st:aa):Prop:=LTg Tryz.prog (kindOf false) [.cell 2 29,.cell 3 123] (aZ Tryz.f161 5) [] R (.aQ::.aQ::x2::x3::(LV.jk 28 [])) st
def P161_6 (x2 x3:LV) (R:LV.RT) (st:aa):Prop:=LTg Tryz.prog (kindOf false) [.cell 2 29,.cell 3 123] (aZ Tryz.f161 6) [] R (.aQ::.aQ::x2::x3::(LV.jk 28 [])) st
def zD:List (Nat × List Nat):=[(5,(LV.gx 0 32 [2,3])),(6,(LV.gx 0 32 [2,3]))]
def w161 (a0:LV) (R:LV.RT) (st:aa):Prop:=
 nw st [i64 0,LV.nils,LV.nils,LV.nils] fun v0 st1=>nw st1 [i64 0,i64 0] fun v2 st3=>bd (bo a0) fun v4=>bd (aj BinOp.gtr v4 (i64 4096)) fun v5=>ak v5
 (bd (aN (av (ax [(0,1),(1,1),(2,1),(3,1)]) [i64 0,LV.nils,LV.nils,LV.nils] [])) fun v6=>bd (aN (av (ax [(0,1),(1,1)]) [i64 0,i64 0] [(0,i64 0),(1,i64 3)])) fun v7=>bd2 (lmk (stV st3 4 v0 v6)) fun _v8 st9=>bd2 (lmk (stV st9 2 v2 v7)) fun _v10 st11=>bd (ldA st11 v0 4) fun v12=>bd (ldA st11 v2 2) fun v13=>R (LV.tup [v12,v13]) st11)
 (LZ 196 [a0,i64 0,i64 0] st3 fun v14 st15=>bd (ar v14 0) fun v16=>bd (ar v14 1) fun v17=>nw st15 [i64 0,LV.nils,LV.nils,LV.nils] fun v18 st19=>nw st19 [i64 0,i64 0] fun v20 st21=>bd2 (lmk (stV st21 4 v18 v16)) fun _v22 st23=>bd2 (lmk (stV st23 2 v20 v17)) fun _v24 st25=>bd (ad 1 v20) fun v26=>bd (ld1 st25 v26) fun v27=>bd (aj BinOp.eql v27 (i64 0)) fun v28=>ak v28
 (bd (ad 0 v20) fun v29=>bd (ld1 st25 v29) fun v30=>bd (bo a0) fun v31=>bd (aj BinOp.lss v30 v31) fun v32=>ak v32
 (bd (aN (av (ax [(0,1),(1,1),(2,1),(3,1)]) [i64 0,LV.nils,LV.nils,LV.nils] [])) fun v33=>bd (ad 0 v20) fun v34=>bd (ld1 st25 v34) fun v35=>bd (aN (av (ax [(0,1),(1,1)]) [i64 0,i64 0] [(0,v35),(1,i64 4)])) fun v36=>bd2 (lmk (stV st25 4 v0 v33)) fun _v37 st38=>ld1 st38 v34=some v35∧bd2 (lmk (stV st38 2 v2 v36)) fun _v39 st40=>P161_5 v0 v2 R st40)
 (bd (ldA st25 v18 4) fun v41=>bd (ldA st25 v20 2) fun v42=>bd2 (lmk (stV st25 4 v0 v41)) fun _v43 st44=>ldA st44 v20 2=some v42∧bd2 (lmk (stV st44 2 v2 v42)) fun _v45 st46=>P161_6 v0 v2 R st46))
 (bd (ldA st25 v18 4) fun v47=>bd (ldA st25 v20 2) fun v48=>bd2 (lmk (stV st25 4 v0 v47)) fun _v49 st50=>ldA st50 v20 2=some v48∧bd2 (lmk (stV st50 2 v2 v48)) fun _v51 st52=>P161_6 v0 v2 R st52))
theorem c161 (a0:LV) {R:LV.RT} {st:aa} (h:w161 a0 R st):LZ 161 [a0] st R:=
 cz [] zD [.cell 2 29,.cell 3 123] Tryz.func161 h
def w161_5 (x2 x3:LV) (R:LV.RT) (st:aa):Prop:=
 bd (ldA st x2 4) fun v0=>bd (ldA st x3 2) fun v1=>R (LV.tup [v0,v1]) st
theorem p161_5 (x2 x3:LV) {R:LV.RT} {st:aa} (h:w161_5 x2 x3 R st):P161_5 x2 x3 R st:=
 pz [] zD h
def w161_6 (x2 x3:LV) (R:LV.RT) (st:aa):Prop:=
 bd (ldA st x2 4) fun v0=>bd (ldA st x3 2) fun v1=>R (LV.tup [v0,v1]) st
theorem p161_6 (x2 x3:LV) {R:LV.RT} {st:aa} (h:w161_6 x2 x3 R st):P161_6 x2 x3 R st:=
 pz [] zD h
def P196_9 (x0 x1 x2 x6 x7 x8 x9 x10 x11:LV) (R:LV.RT) (st:aa):Prop:=LTg Tryz.prog (kindOf false) [.cell 6 29,.cell 7 123] (aZ Tryz.f196 9) [] R (x0::x1::x2::(LV.jk 3 (x6::x7::x8::x9::x10::x11::(LV.jk 125 [])))) st
def P196_14 (x0 x1 x2 x6 x7 x8 x9 x10 x11:LV) (R:LV.RT) (st:aa):Prop:=LTg Tryz.prog (kindOf false) [.cell 6 29,.cell 7 123] (aZ Tryz.f196 14) [] R (x0::x1::x2::(LV.jk 3 (x6::x7::x8::x9::x10::x11::(LV.jk 125 [])))) st
def P196_15 (x0 x1 x2 x6 x7 x8 x9 x10 x11 x67:LV) (R:LV.RT) (st:aa):Prop:=LTg Tryz.prog (kindOf false) [.cell 6 29,.cell 7 123] (aZ Tryz.f196 15) [] R (x0::x1::x2::(LV.jk 3 (x6::x7::x8::x9::x10::x11::(LV.jk 55 (x67::(LV.jk 69 [])))))) st
def P196_26 (x6 x7:LV) (R:LV.RT) (st:aa):Prop:=LTg Tryz.prog (kindOf false) [.cell 6 29,.cell 7 123] (aZ Tryz.f196 26) [] R (LV.jk 6 (x6::x7::(LV.jk 129 []))) st
def P196_28 (x6 x7:LV) (R:LV.RT) (st:aa):Prop:=LTg Tryz.prog (kindOf false) [.cell 6 29,.cell 7 123] (aZ Tryz.f196 28) [] R (LV.jk 6 (x6::x7::(LV.jk 129 []))) st
def P196_29 (x6 x7:LV) (R:LV.RT) (st:aa):Prop:=LTg Tryz.prog (kindOf false) [.cell 6 29,.cell 7 123] (aZ Tryz.f196 29) [] R (LV.jk 6 (x6::x7::(LV.jk 129 []))) st
def pZ:List Nat:=(LV.gx 3 134 [6,7,8,9,10,11])
def qa:List (Nat × List Nat):=[(11,(LV.gx 3 134 [6,7,8,9,10,11,67])),(21,(LV.gx 0 137 [6,7])),(23,(LV.gx 0 137 [6,7])),(24,(LV.gx 0 137 [6,7]))]
def w196 (a0 a1 a2:LV) (R:LV.RT) (st:aa):Prop:=
 nw st [i64 0,LV.nils,LV.nils,LV.nils] fun v0 st1=>nw st1 [i64 0,i64 0] fun v2 st3=>bd (aj BinOp.geq a2 (i64 8)) fun v4=>ak v4
 (bd (aN (av (ax [(0,1),(1,1),(2,1),(3,1)]) [i64 0,LV.nils,LV.nils,LV.nils] [])) fun v5=>bd (aN (av (ax [(0,1),(1,1)]) [i64 0,i64 0] [(0,a1),(1,i64 3)])) fun v6=>bd2 (lmk (stV st3 4 v0 v5)) fun _v7 st8=>bd2 (lmk (stV st8 2 v2 v6)) fun _v9 st10=>bd (ldA st10 v0 4) fun v11=>bd (ldA st10 v2 2) fun v12=>R (LV.tup [v11,v12]) st10)
 (LZ 243 [a0,a1] st3 fun v13 st14=>bd (aj BinOp.eql v13 (i64 91)) fun v15=>ak v15
 (LZ 243 [a0,a1] st14 fun v16 st17=>bd (aj BinOp.eql v16 (i64 123)) fun v18=>LZ 244 [a0,a1,a2,v18] st17 fun v19 st20=>bd (ar v19 0) fun v21=>bd (ar v19 1) fun v22=>bd2 (lmk (stV st20 4 v0 v21)) fun _v23 st24=>bd2 (lmk (stV st24 2 v2 v22)) fun _v25 st26=>bd (ldA st26 v0 4) fun v27=>bd (ldA st26 v2 2) fun v28=>R (LV.tup [v27,v28]) st26)
 (LZ 243 [a0,a1] st14 fun v29 st30=>bd (aj BinOp.eql v29 (i64 123)) fun v31=>ak v31
 (LZ 243 [a0,a1] st30 fun v32 st33=>bd (aj BinOp.eql v32 (i64 123)) fun v34=>LZ 244 [a0,a1,a2,v34] st33 fun v35 st36=>bd (ar v35 0) fun v37=>bd (ar v35 1) fun v38=>bd2 (lmk (stV st36 4 v0 v37)) fun _v39 st40=>bd2 (lmk (stV st40 2 v2 v38)) fun _v41 st42=>bd (ldA st42 v0 4) fun v43=>bd (ldA st42 v2 2) fun v44=>R (LV.tup [v43,v44]) st42)
 (bd2
 (bJ st30 7
 (av (fun i=>some (i*1,1)) (List.replicate 7 [LV.str []]).flatten
 [(0,LV.str [97,110,121]),(1,LV.str [98,111,111,108]),(2,LV.str [105,110,116]),(3,LV.str [112,111,105,110,116]),(4,LV.str [116,101,120,116]),
 (5,LV.str [108,105,115,116]),(6,LV.str [109,97,112])]))
 fun v45 st46=>P196_9 a0 a1 a2 v0 v2 v45 (i64 0) (i64 0) (LV.tup []) R st46)))
theorem c196 (a0 a1 a2:LV) {R:LV.RT} {st:aa} (h:w196 a0 a1 a2 R st):LZ 196 [a0,a1,a2] st R:=
 cz pZ qa [.cell 6 29,.cell 7 123] Tryz.func196 h
def w196_9 (x0 x1 x2 x6 x7 x8 x9 x10:LV) (_x11:LV) (R:LV.RT) (st:aa):Prop:=
 bd (bD x8) fun v0=>bd (aj BinOp.lss x10 v0) fun v1=>ak v1 (P196_14 x0 x1 x2 x6 x7 x8 x9 x10 (i64 0) R st)
 (bd (aN (av (ax [(0,1),(1,1),(2,1),(3,1)]) [i64 0,LV.nils,LV.nils,LV.nils] [])) fun v2=>bd (aj BinOp.add x1 x9) fun v3=>bd (aN (av (ax [(0,1),(1,1)]) [i64 0,i64 0] [(0,v3),(1,i64 4)])) fun v4=>bd2 (lmk (stV st 4 x6 v2)) fun _v5 st6=>bd2 (lmk (stV st6 2 x7 v4)) fun _v7 st8=>bd (ldA st8 x6 4) fun v9=>bd (ldA st8 x7 2) fun v10=>R (LV.tup [v9,v10]) st8)
theorem p196_9 (x0 x1 x2 x6 x7 x8 x9 x10 x11:LV) {R:LV.RT} {st:aa} (h:w196_9 x0 x1 x2 x6 x7 x8 x9 x10 x11 R st):P196_9 x0 x1 x2 x6 x7 x8 x9 x10 x11 R st:=
 pz pZ qa h
def w196_14 (x0 x1 x2 x6 x7 x8 x9 x10 x11:LV) (R:LV.RT) (st:aa):Prop:=
 bd (bh 1 x8 x10) fun v0=>bd (ld1 st v0) fun v1=>bd (bo v1) fun v2=>bd (aj BinOp.lss x11 v2) fun v3=>ak v3
 (bd (aj BinOp.add x1 x11) fun v4=>bd (bh 1 x8 x10) fun v5=>bd (ld1 st v5) fun v6=>bd (cn v6 x11) fun v7=>bd (fj IntKind.i64 v7) fun v8=>LZ 243 [x0,v4] st fun v9 st10=>ld1 st10 v5=some v6∧bd (aj BinOp.eql v9 v8) fun v11=>P196_15 x0 x1 x2 x6 x7 x8 x9 x10 x11 v11 R st10)
 (P196_15 x0 x1 x2 x6 x7 x8 x9 x10 x11 (LV.bool false) R st)
theorem p196_14 (x0 x1 x2 x6 x7 x8 x9 x10 x11:LV) {R:LV.RT} {st:aa} (h:w196_14 x0 x1 x2 x6 x7 x8 x9 x10 x11 R st):P196_14 x0 x1 x2 x6 x7 x8 x9 x10 x11 R st:=
 pz pZ qa h
def w196_15 (x0 x1 x2 x6 x7 x8 x9 x10 x11 x67:LV) (R:LV.RT) (st:aa):Prop:=
 ak x67 (bd (aj BinOp.add x11 (i64 1)) fun v0=>P196_14 x0 x1 x2 x6 x7 x8 x9 x10 v0 R st)
 (bd (oH [x9,x11]) fun v1=>bd (bh 1 x8 x10) fun v2=>bd (ld1 st v2) fun v3=>bd (bo v3) fun v4=>bd (aj BinOp.lss x11 v4) fun v5=>ak v5 (bd (aj BinOp.add x10 (i64 1)) fun v6=>P196_9 x0 x1 x2 x6 x7 x8 v1 v6 x11 R st)
 (bd (aj BinOp.lss x10 (i64 5)) fun v7=>ak v7
 (bd (aN (av (ax [(0,1),(1,1),(2,1),(3,1)]) [i64 0,LV.nils,LV.nils,LV.nils] [(0,x10)])) fun v8=>bd (aj BinOp.add x1 x11) fun v9=>bd (aN (av (ax [(0,1),(1,1)]) [i64 0,i64 0] [(0,v9),(1,i64 0)])) fun v10=>bd2 (lmk (stV st 4 x6 v8)) fun _v11 st12=>bd2 (lmk (stV st12 2 x7 v10)) fun _v13 st14=>bd (ldA st14 x6 4) fun v15=>bd (ldA st14 x7 2) fun v16=>R (LV.tup [v15,v16]) st14)
 (bd (aj BinOp.add x1 x11) fun v17=>LZ 243 [x0,v17] st fun v18 st19=>bd (aj BinOp.neq v18 (i64 40)) fun v20=>ak v20
 (bd (aN (av (ax [(0,1),(1,1),(2,1),(3,1)]) [i64 0,LV.nils,LV.nils,LV.nils] [])) fun v21=>bd (aj BinOp.add x1 x11) fun v22=>bd (aN (av (ax [(0,1),(1,1)]) [i64 0,i64 0] [(0,v22),(1,i64 4)])) fun v23=>bd2 (lmk (stV st19 4 x6 v21)) fun _v24 st25=>bd2 (lmk (stV st25 2 x7 v23)) fun _v26 st27=>bd (ldA st27 x6 4) fun v28=>bd (ldA st27 x7 2) fun v29=>R (LV.tup [v28,v29]) st27)
 (bd (aj BinOp.add x1 x11) fun v30=>bd (aj BinOp.add v30 (i64 1)) fun v31=>bd (aj BinOp.add x2 (i64 1)) fun v32=>LZ 196 [x0,v31,v32] st19 fun v33 st34=>bd (ar v33 0) fun v35=>bd (ar v33 1) fun v36=>nw st34 [i64 0,LV.nils,LV.nils,LV.nils] fun v37 st38=>nw st38 [i64 0,i64 0] fun v39 st40=>bd2 (lmk (stV st40 4 v37 v35)) fun _v41 st42=>bd2 (lmk (stV st42 2 v39 v36)) fun _v43 st44=>bd (ad 1 v39) fun v45=>bd (ld1 st44 v45) fun v46=>bd (aj BinOp.neq v46 (i64 0)) fun v47=>ak v47
 (bd (aN (av (ax [(0,1),(1,1),(2,1),(3,1)]) [i64 0,LV.nils,LV.nils,LV.nils] [])) fun v48=>bd (ldA st44 v39 2) fun v49=>bd2 (lmk (stV st44 4 x6 v48)) fun _v50 st51=>ldA st51 v39 2=some v49∧bd2 (lmk (stV st51 2 x7 v49)) fun _v52 st53=>P196_26 x6 x7 R st53)
 (bd (ad 0 v39) fun v54=>bd (ld1 st44 v54) fun v55=>LZ 243 [x0,v55] st44 fun v56 st57=>bd (aj BinOp.neq v56 (i64 41)) fun v58=>ak v58
 (bd (aN (av (ax [(0,1),(1,1),(2,1),(3,1)]) [i64 0,LV.nils,LV.nils,LV.nils] [])) fun v59=>bd (ad 0 v39) fun v60=>bd (ld1 st57 v60) fun v61=>bd (aN (av (ax [(0,1),(1,1)]) [i64 0,i64 0] [(0,v61),(1,i64 4)]))
 fun v62=>bd2 (lmk (stV st57 4 x6 v59)) fun _v63 st64=>ld1 st64 v60=some v61∧bd2 (lmk (stV st64 2 x7 v62)) fun _v65 st66=>P196_28 x6 x7 R st66)
 (bd (ldA st57 v37 4) fun v67=>bd (ad 0 v39) fun v68=>bd (ld1 st57 v68) fun v69=>bd (aj BinOp.add v69 (i64 1)) fun v70=>bd (aN (av (ax [(0,1),(1,1)]) [i64 0,i64 0] [(0,v70),(1,i64 0)]))
 fun v71=>bd2
 (bJ st57 1
 (av (fun i=>some (i*4,4)) (List.replicate 1 [i64 0,LV.nils,LV.nils,LV.nils]).flatten
 [(0,v67)]))
 fun v72 st73=>ld1 st73 v68=some v69∧
 bd
 (aN
 (av (ax [(0,1),(1,1),(2,1),(3,1)]) [i64 0,LV.nils,LV.nils,LV.nils]
 [(0,x10),(1,v72)]))
 fun v74=>bd2 (lmk (stV st73 4 x6 v74)) fun _v75 st76=>ld1 st76 v68=some v69∧bd2 (lmk (stV st76 2 x7 v71)) fun _v77 st78=>P196_29 x6 x7 R st78))))))
theorem p196_15 (x0 x1 x2 x6 x7 x8 x9 x10 x11 x67:LV) {R:LV.RT} {st:aa} (h:w196_15 x0 x1 x2 x6 x7 x8 x9 x10 x11 x67 R st):P196_15 x0 x1 x2 x6 x7 x8 x9 x10 x11 x67 R st:=
 pz pZ qa h
def w196_26 (x6 x7:LV) (R:LV.RT) (st:aa):Prop:=
 bd (ldA st x6 4) fun v0=>bd (ldA st x7 2) fun v1=>R (LV.tup [v0,v1]) st
theorem p196_26 (x6 x7:LV) {R:LV.RT} {st:aa} (h:w196_26 x6 x7 R st):P196_26 x6 x7 R st:=
 pz pZ qa h
def w196_28 (x6 x7:LV) (R:LV.RT) (st:aa):Prop:=
 bd (ldA st x6 4) fun v0=>bd (ldA st x7 2) fun v1=>R (LV.tup [v0,v1]) st
theorem p196_28 (x6 x7:LV) {R:LV.RT} {st:aa} (h:w196_28 x6 x7 R st):P196_28 x6 x7 R st:=
 pz pZ qa h
def w196_29 (x6 x7:LV) (R:LV.RT) (st:aa):Prop:=
 bd (ldA st x6 4) fun v0=>bd (ldA st x7 2) fun v1=>R (LV.tup [v0,v1]) st
theorem p196_29 (x6 x7:LV) {R:LV.RT} {st:aa} (h:w196_29 x6 x7 R st):P196_29 x6 x7 R st:=
 pz pZ qa h
def w243 (a0 a1:LV) (R:LV.RT) (st:aa):Prop:=
 bd (bo a0) fun v0=>bd (aj BinOp.geq a1 v0) fun v1=>ak v1 (R (i64 (-1)) st) (bd (cn a0 a1) fun v2=>bd (fj IntKind.i64 v2) fun v3=>R v3 st)
theorem c243 (a0 a1:LV) {R:LV.RT} {st:aa} (h:w243 a0 a1 R st):LZ 243 [a0,a1] st R:=
 cz [] [] [.tmp 4] Tryz.func243 h
def P77_2 (x1 x4 x5:LV) (R:LV.RT) (st:aa):Prop:=LTg Tryz.prog (kindOf false) [.cell 4 123] (aZ Tryz.f77 2) [] R (.aQ::x1::.aQ::.aQ::x4::x5::(LV.jk 49 [])) st
def P77_3 (x0 x1 x4 x5:LV) (R:LV.RT) (st:aa):Prop:=LTg Tryz.prog (kindOf false) [.cell 4 123] (aZ Tryz.f77 3) [] R (x0::x1::.aQ::.aQ::x4::x5::(LV.jk 49 [])) st
def Cn:List Nat:=(LV.gx 2 53 [4,5])
def Co:List (Nat × List Nat):=[(0,[0,2,3,6,7,8,9,10,11,12,13,14,15,16,17,18,19,20,21,22,23,24,25,26,27,28,29,30,31,32,33,34,35,36,37,38,39,40,41,42,43,44,45,46,47,48,49,50,51,52,53,54])]
def w77 (a0 a1:LV) (R:LV.RT) (st:aa):Prop:=
 nw st [i64 0,i64 0] fun v0 st1=>P77_3 a0 a1 v0 a1 R st1
theorem c77 (a0 a1:LV) {R:LV.RT} {st:aa} (h:w77 a0 a1 R st):LZ 77 [a0,a1] st R:=
 au.ofE (gl:=Cn) (cuts:=Co) (rc:=[]) (n:=3000) dB Tryz.func77 (show Tryz.f77.body=some (dz Tryz.f77) by kernel_rfl) (by kernel_rfl) (show Tryz.f77.results.toList=[.cell 4 123] by kernel_rfl) (by kernel_rfl) h
def w77_2 (x1 x4 x5:LV) (R:LV.RT) (st:aa):Prop:=
 bd (aj BinOp.eql x5 x1) fun v0=>ak v0
 (bd (aN (av (ax [(0,1),(1,1)]) [i64 0,i64 0] [(0,x1),(1,i64 4)])) fun v1=>bd2 (lmk (stV st 2 x4 v1)) fun _v2 st3=>bd (ldA st3 x4 2) fun v4=>R v4 st3)
 (bd (aj BinOp.sub x5 x1) fun v5=>bd (aj BinOp.gtr v5 (i64 20)) fun v6=>ak v6
 (bd (aN (av (ax [(0,1),(1,1)]) [i64 0,i64 0] [(0,x1),(1,i64 7)])) fun v7=>bd2 (lmk (stV st 2 x4 v7)) fun _v8 st9=>bd (ldA st9 x4 2) fun v10=>R v10 st9)
 (bd (aN (av (ax [(0,1),(1,1)]) [i64 0,i64 0] [(0,x5),(1,i64 0)])) fun v11=>bd2 (lmk (stV st 2 x4 v11)) fun _v12 st13=>bd (ldA st13 x4 2) fun v14=>R v14 st13))
theorem p77_2 (x1 x4 x5:LV) {R:LV.RT} {st:aa} (h:w77_2 x1 x4 x5 R st):P77_2 x1 x4 x5 R st:=
 LTg.atE (gl:=Cn) (cuts:=Co) (rc:=[]) (n:=3000) dB (by kernel_rfl) h
def w77_3 (x0 x1 x4 x5:LV) (R:LV.RT) (st:aa):Prop:=
 bd (bo x0) fun v0=>bd (aj BinOp.lss x5 v0) fun v1=>ak v1
 (bd (cn x0 x5) fun v2=>bd (aj BinOp.geq v2 (LV.int IntKind.u8 97)) fun v3=>ak v3
 (bd (cn x0 x5) fun v4=>bd (aj BinOp.leq v4 (LV.int IntKind.u8 122)) fun v5=>ak v5 (bd (aj BinOp.add x5 (i64 1)) fun v6=>P77_3 x0 x1 x4 v6 R st)
 (bd (aj BinOp.gtr x5 x1) fun v7=>ak v7
 (bd (cn x0 x5) fun v8=>bd (aj BinOp.geq v8 (LV.int IntKind.u8 48)) fun v9=>ak v9
 (bd (cn x0 x5) fun v10=>bd (aj BinOp.leq v10 (LV.int IntKind.u8 57)) fun v11=>ak v11 (bd (aj BinOp.add x5 (i64 1)) fun v12=>P77_3 x0 x1 x4 v12 R st) (P77_2 x1 x4 x5 R st))
 (P77_2 x1 x4 x5 R st))
 (P77_2 x1 x4 x5 R st)))
 (bd (aj BinOp.gtr x5 x1) fun v13=>ak v13
 (bd (cn x0 x5) fun v14=>bd (aj BinOp.geq v14 (LV.int IntKind.u8 48)) fun v15=>ak v15
 (bd (cn x0 x5) fun v16=>bd (aj BinOp.leq v16 (LV.int IntKind.u8 57)) fun v17=>ak v17 (bd (aj BinOp.add x5 (i64 1)) fun v18=>P77_3 x0 x1 x4 v18 R st) (P77_2 x1 x4 x5 R st))
 (P77_2 x1 x4 x5 R st))
 (P77_2 x1 x4 x5 R st)))
 (P77_2 x1 x4 x5 R st)
theorem p77_3 (x0 x1 x4 x5:LV) {R:LV.RT} {st:aa} (h:w77_3 x0 x1 x4 x5 R st):P77_3 x0 x1 x4 x5 R st:=
 LTg.atE (gl:=Cn) (cuts:=Co) (rc:=[]) (n:=3000) dB (by kernel_rfl) h
def P244_10 (x0 x1 x2 x3 x8 x9 x10 x11:LV) (R:LV.RT) (st:aa):Prop:=LTg Tryz.prog (kindOf false) [.cell 8 29,.cell 9 123] (aZ Tryz.f244 10) [] R (x0::x1::x2::x3::(LV.jk 4 (x8::x9::x10::x11::(LV.jk 145 [])))) st
def P244_14 (x0 x1 x2 x3 x8 x9 x10 x11 x40:LV) (R:LV.RT) (st:aa):Prop:=LTg Tryz.prog (kindOf false) [.cell 8 29,.cell 9 123] (aZ Tryz.f244 14) [] R (x0::x1::x2::x3::(LV.jk 4 (x8::x9::x10::x11::(LV.jk 28 (x40::(LV.jk 116 [])))))) st
def P244_17 (x8 x9:LV) (R:LV.RT) (st:aa):Prop:=LTg Tryz.prog (kindOf false) [.cell 8 29,.cell 9 123] (aZ Tryz.f244 17) [] R (LV.jk 8 (x8::x9::(LV.jk 147 []))) st
def P244_21 (x8 x9:LV) (R:LV.RT) (st:aa):Prop:=LTg Tryz.prog (kindOf false) [.cell 8 29,.cell 9 123] (aZ Tryz.f244 21) [] R (LV.jk 8 (x8::x9::(LV.jk 147 []))) st
def P244_25 (x0 x1 x2 x3 x8 x9 x10 x11 x13 x15:LV) (R:LV.RT) (st:aa):Prop:=LTg Tryz.prog (kindOf false) [.cell 8 29,.cell 9 123] (aZ Tryz.f244 25) [] R (x0::x1::x2::x3::(LV.jk 4 (x8::x9::x10::x11::.aQ::x13::.aQ::x15::(LV.jk 141 [])))) st
def P244_29 (x8 x9:LV) (R:LV.RT) (st:aa):Prop:=LTg Tryz.prog (kindOf false) [.cell 8 29,.cell 9 123] (aZ Tryz.f244 29) [] R (LV.jk 8 (x8::x9::(LV.jk 147 []))) st
def P244_32 (x0 x1 x2 x3 x8 x9 x10 x11:LV) (R:LV.RT) (st:aa):Prop:=LTg Tryz.prog (kindOf false) [.cell 8 29,.cell 9 123] (aZ Tryz.f244 32) [] R (x0::x1::x2::x3::(LV.jk 4 (x8::x9::x10::x11::(LV.jk 145 [])))) st
def P244_35 (x8 x9:LV) (R:LV.RT) (st:aa):Prop:=LTg Tryz.prog (kindOf false) [.cell 8 29,.cell 9 123] (aZ Tryz.f244 35) [] R (LV.jk 8 (x8::x9::(LV.jk 147 []))) st
def l9:List Nat:=(LV.gx 4 153 [8,9,10,11])
def ma:List (Nat × List Nat):=[(11,(LV.gx 4 153 [8,9,10,11,40])),(14,(LV.gx 0 157 [8,9])),(18,(LV.gx 0 157 [8,9])),(22,(LV.gx 4 153 [8,9,10,11,13,15])),(26,(LV.gx 0 157 [8,9])),(29,(LV.gx 4 153 [8,9,10,11])),(32,(LV.gx 0 157 [8,9]))]
def w244 (a0 a1 a2 a3:LV) (R:LV.RT) (st:aa):Prop:=
 nw st [i64 0,LV.nils,LV.nils,LV.nils] fun v0 st1=>nw st1 [i64 0,i64 0] fun v2 st3=>bd (aN (av (ax [(0,1),(1,1),(2,1),(3,1)]) [i64 0,LV.nils,LV.nils,LV.nils] [(0,i64 7)])) fun v4=>nw st3 [i64 0,LV.nils,LV.nils,LV.nils] fun v5 st6=>bd2 (lmk (stV st6 4 v5 v4)) fun _v7 st8=>ak a3
 (bd (ad 0 v5) fun v9=>bd2 (lmk (stV st8 1 v9 (i64 8))) fun _v10 st11=>bd (aj BinOp.add a1 (i64 1)) fun v12=>LZ 243 [a0,v12] st11 fun v13 st14=>bd (fj IntKind.i64 (LV.int IntKind.i32 125)) fun v15=>bd (aj BinOp.eql v13 v15) fun v16=>ak v16
 (bd (ldA st14 v5 4) fun v17=>bd (aj BinOp.add v12 (i64 1)) fun v18=>bd (aN (av (ax [(0,1),(1,1)]) [i64 0,i64 0] [(0,v18),(1,i64 0)])) fun v19=>bd2 (lmk (stV st14 4 v0 v17)) fun _v20 st21=>bd2 (lmk (stV st21 2 v2 v19)) fun _v22 st23=>bd (ldA st23 v0 4) fun v24=>bd (ldA st23 v2 2) fun v25=>R (LV.tup [v24,v25]) st23)
 (P244_10 a0 v12 a2 a3 v0 v2 v5 (LV.int IntKind.i32 125) R st14))
 (bd (aj BinOp.add a1 (i64 1)) fun v26=>LZ 243 [a0,v26] st8 fun v27 st28=>bd (fj IntKind.i64 (LV.int IntKind.i32 93)) fun v29=>bd (aj BinOp.eql v27 v29) fun v30=>ak v30
 (bd (ldA st28 v5 4) fun v31=>bd (aj BinOp.add v26 (i64 1)) fun v32=>bd (aN (av (ax [(0,1),(1,1)]) [i64 0,i64 0] [(0,v32),(1,i64 0)])) fun v33=>bd2 (lmk (stV st28 4 v0 v31)) fun _v34 st35=>bd2 (lmk (stV st35 2 v2 v33)) fun _v36 st37=>bd (ldA st37 v0 4) fun v38=>bd (ldA st37 v2 2) fun v39=>R (LV.tup [v38,v39]) st37)
 (P244_10 a0 v26 a2 a3 v0 v2 v5 (LV.int IntKind.i32 93) R st28))
theorem c244 (a0 a1 a2 a3:LV) {R:LV.RT} {st:aa} (h:w244 a0 a1 a2 a3 R st):LZ 244 [a0,a1,a2,a3] st R:=
 cz l9 ma [.cell 8 29,.cell 9 123] Tryz.func244 h
def w244_10 (x0 x1 x2 x3 x8 x9 x10 x11:LV) (R:LV.RT) (st:aa):Prop:=
 bd (ad 1 x10) fun v0=>bd (ld1 st v0) fun v1=>bd (bD v1) fun v2=>bd (aj BinOp.eql v2 (i64 16)) fun v3=>ak v3
 (bd (ldA st x10 4) fun v4=>bd (aN (av (ax [(0,1),(1,1)]) [i64 0,i64 0] [(0,x1),(1,i64 3)])) fun v5=>bd2 (lmk (stV st 4 x8 v4)) fun _v6 st7=>bd2 (lmk (stV st7 2 x9 v5)) fun _v8 st9=>bd (ldA st9 x8 4) fun v10=>bd (ldA st9 x9 2) fun v11=>R (LV.tup [v10,v11]) st9)
 (P244_14 x0 x1 x2 x3 x8 x9 x10 x11 x3 R st)
theorem p244_10 (x0 x1 x2 x3 x8 x9 x10 x11:LV) {R:LV.RT} {st:aa} (h:w244_10 x0 x1 x2 x3 x8 x9 x10 x11 R st):P244_10 x0 x1 x2 x3 x8 x9 x10 x11 R st:=
 pz l9 ma h
def w244_14 (x0 x1 x2 x3 x8 x9 x10 x11 x40:LV) (R:LV.RT) (st:aa):Prop:=
 ak x40
 (LZ 77 [x0,x1] st fun v0 st1=>nw st1 [i64 0,i64 0] fun v2 st3=>bd2 (lmk (stV st3 2 v2 v0)) fun _v4 st5=>bd (ad 1 v2) fun v6=>bd (ld1 st5 v6) fun v7=>bd (aj BinOp.neq v7 (i64 0)) fun v8=>ak v8
 (bd (ldA st5 x10 4) fun v9=>bd (ldA st5 v2 2) fun v10=>bd2 (lmk (stV st5 4 x8 v9)) fun _v11 st12=>ldA st12 v2 2=some v10∧bd2 (lmk (stV st12 2 x9 v10)) fun _v13 st14=>P244_17 x8 x9 R st14)
 (bd (ad 0 v2) fun v15=>bd (ld1 st5 v15) fun v16=>bd (ob3 (some x1) (some v16) none fun l h m=>cq x0 l h m) fun v17=>bd (ad 2 x10) fun v18=>bd (ld1 st5 v18) fun v19=>bd (bD v19) fun v20=>bd (aj BinOp.gtr v20 (i64 0)) fun v21=>ak v21
 (bd (ad 2 x10) fun v22=>bd (ld1 st5 v22) fun v23=>bd (aj BinOp.sub v20 (i64 1)) fun v24=>bd (bh 1 v23 v24) fun v25=>bd (ld1 st5 v25) fun v26=>bd (bg BinOp.eql v17 v26) fun v27=>ak v27
 (bd (ldA st5 x10 4) fun v28=>bd (aN (av (ax [(0,1),(1,1)]) [i64 0,i64 0] [(0,x1),(1,i64 9)])) fun v29=>bd2 (lmk (stV st5 4 x8 v28)) fun _v30 st31=>bd2 (lmk (stV st31 2 x9 v29)) fun _v32 st33=>P244_21 x8 x9 R st33)
 (bd (aj BinOp.gtr v20 (i64 0)) fun v34=>ak v34
 (bd (ad 2 x10) fun v35=>bd (ld1 st5 v35) fun v36=>bd (aj BinOp.sub v20 (i64 1)) fun v37=>bd (bh 1 v36 v37) fun v38=>bd (ld1 st5 v38) fun v39=>bd (bg BinOp.lss v17 v39) fun v40=>ak v40
 (bd (ldA st5 x10 4) fun v41=>bd (aN (av (ax [(0,1),(1,1)]) [i64 0,i64 0] [(0,x1),(1,i64 4)]))
 fun v42=>bd2 (lmk (stV st5 4 x8 v41)) fun _v43 st44=>bd2 (lmk (stV st44 2 x9 v42)) fun _v45 st46=>bd (ldA st46 x8 4) fun v47=>bd (ldA st46 x9 2) fun v48=>R (LV.tup [v47,v48]) st46)
 (bd (ad 0 v2) fun v49=>bd (ld1 st5 v49) fun v50=>LZ 243 [x0,v50] st5 fun v51 st52=>bd (aj BinOp.eql v51 (i64 63)) fun v53=>P244_25 x0 v50 x2 x3 x8 x9 x10 x11 v17 v53 R st52))
 (bd (ad 0 v2) fun v54=>bd (ld1 st5 v54) fun v55=>LZ 243 [x0,v55] st5 fun v56 st57=>bd (aj BinOp.eql v56 (i64 63)) fun v58=>P244_25 x0 v55 x2 x3 x8 x9 x10 x11 v17 v58 R st57)))
 (bd (aj BinOp.gtr v20 (i64 0)) fun v59=>ak v59
 (bd (ad 2 x10) fun v60=>bd (ld1 st5 v60) fun v61=>bd (aj BinOp.sub v20 (i64 1)) fun v62=>bd (bh 1 v61 v62) fun v63=>bd (ld1 st5 v63) fun v64=>bd (bg BinOp.lss v17 v64) fun v65=>ak v65
 (bd (ldA st5 x10 4) fun v66=>bd (aN (av (ax [(0,1),(1,1)]) [i64 0,i64 0] [(0,x1),(1,i64 4)])) fun v67=>bd2 (lmk (stV st5 4 x8 v66)) fun _v68 st69=>bd2 (lmk (stV st69 2 x9 v67)) fun _v70 st71=>bd (ldA st71 x8 4) fun v72=>bd (ldA st71 x9 2) fun v73=>R (LV.tup [v72,v73]) st71)
 (bd (ad 0 v2) fun v74=>bd (ld1 st5 v74) fun v75=>LZ 243 [x0,v75] st5 fun v76 st77=>bd (aj BinOp.eql v76 (i64 63)) fun v78=>P244_25 x0 v75 x2 x3 x8 x9 x10 x11 v17 v78 R st77))
 (bd (ad 0 v2) fun v79=>bd (ld1 st5 v79) fun v80=>LZ 243 [x0,v80] st5 fun v81 st82=>bd (aj BinOp.eql v81 (i64 63)) fun v83=>P244_25 x0 v80 x2 x3 x8 x9 x10 x11 v17 v83 R st82))))
 (bd (aj BinOp.add x2 (i64 1)) fun v84=>LZ 196 [x0,x1,v84] st fun v85 st86=>bd (ar v85 0) fun v87=>bd (ar v85 1) fun v88=>nw st86 [i64 0,LV.nils,LV.nils,LV.nils] fun v89 st90=>nw st90 [i64 0,i64 0] fun v91 st92=>bd2 (lmk (stV st92 4 v89 v87)) fun _v93 st94=>bd2 (lmk (stV st94 2 v91 v88)) fun _v95 st96=>bd (ad 1 v91) fun v97=>bd (ld1 st96 v97) fun v98=>bd (aj BinOp.neq v98 (i64 0)) fun v99=>ak v99
 (bd (ldA st96 x10 4) fun v100=>bd (ldA st96 v91 2) fun v101=>bd2 (lmk (stV st96 4 x8 v100)) fun _v102 st103=>ldA st103 v91 2=some v101∧bd2 (lmk (stV st103 2 x9 v101)) fun _v104 st105=>P244_35 x8 x9 R st105)
 (bd (ad 1 x10) fun v106=>bd (ld1 st96 v106) fun v107=>bd (ldA st96 v89 4) fun v108=>bd2 (bJ st96 1 (av (fun i=>some (i*4,4)) (List.replicate 1 [i64 0,LV.nils,LV.nils,LV.nils]).flatten [(0,v108)])) fun v109 st110=>bd2 (aP st110 4 80 Md.rw v107 v109) fun v111 st112=>bd (ad 1 x10) fun v113=>bd2 (lmk (stV st112 1 v113 v111)) fun _v114 st115=>bd (ad 0 v91) fun v116=>bd (ld1 st115 v116) fun v117=>LZ 243 [x0,v117] st115 fun v118 st119=>bd (fj IntKind.i64 x11) fun v120=>bd (aj BinOp.eql v118 v120) fun v121=>ak v121
 (bd (ldA st119 x10 4) fun v122=>bd (aj BinOp.add v117 (i64 1)) fun v123=>bd (aN (av (ax [(0,1),(1,1)]) [i64 0,i64 0] [(0,v123),(1,i64 0)])) fun v124=>bd2 (lmk (stV st119 4 x8 v122)) fun _v125 st126=>bd2 (lmk (stV st126 2 x9 v124)) fun _v127 st128=>bd (ldA st128 x8 4) fun v129=>bd (ldA st128 x9 2) fun v130=>R (LV.tup [v129,v130]) st128)
 (LZ 243 [x0,v117] st119 fun v131 st132=>bd (aj BinOp.neq v131 (i64 44)) fun v133=>ak v133
 (bd (ldA st132 x10 4) fun v134=>bd (aN (av (ax [(0,1),(1,1)]) [i64 0,i64 0] [(0,v117),(1,i64 4)]))
 fun v135=>bd2 (lmk (stV st132 4 x8 v134)) fun _v136 st137=>bd2 (lmk (stV st137 2 x9 v135)) fun _v138 st139=>bd (ldA st139 x8 4) fun v140=>bd (ldA st139 x9 2) fun v141=>R (LV.tup [v140,v141]) st139)
 (bd (aj BinOp.add v117 (i64 1)) fun v142=>P244_10 x0 v142 x2 x3 x8 x9 x10 x11 R st132))))
theorem p244_14 (x0 x1 x2 x3 x8 x9 x10 x11 x40:LV) {R:LV.RT} {st:aa} (h:w244_14 x0 x1 x2 x3 x8 x9 x10 x11 x40 R st):P244_14 x0 x1 x2 x3 x8 x9 x10 x11 x40 R st:=
 pz l9 ma h
def w244_17 (x8 x9:LV) (R:LV.RT) (st:aa):Prop:=
 bd (ldA st x8 4) fun v0=>bd (ldA st x9 2) fun v1=>R (LV.tup [v0,v1]) st
theorem p244_17 (x8 x9:LV) {R:LV.RT} {st:aa} (h:w244_17 x8 x9 R st):P244_17 x8 x9 R st:=
 pz l9 ma h
def w244_21 (x8 x9:LV) (R:LV.RT) (st:aa):Prop:=
 bd (ldA st x8 4) fun v0=>bd (ldA st x9 2) fun v1=>R (LV.tup [v0,v1]) st
theorem p244_21 (x8 x9:LV) {R:LV.RT} {st:aa} (h:w244_21 x8 x9 R st):P244_21 x8 x9 R st:=
 pz l9 ma h
def w244_25 (x0 x1 x2 x3 x8 x9 x10 x11 x13 x15:LV) (R:LV.RT) (st:aa):Prop:=
 ak x15
 (bd (aj BinOp.add x1 (i64 1)) fun v0=>LZ 243 [x0,v0] st fun v1 st2=>bd (aj BinOp.neq v1 (i64 58)) fun v3=>ak v3
 (bd (ldA st2 x10 4) fun v4=>bd (aN (av (ax [(0,1),(1,1)]) [i64 0,i64 0] [(0,v0),(1,i64 4)])) fun v5=>bd2 (lmk (stV st2 4 x8 v4)) fun _v6 st7=>bd2 (lmk (stV st7 2 x9 v5)) fun _v8 st9=>P244_29 x8 x9 R st9)
 (bd (aj BinOp.add v0 (i64 1)) fun v10=>bd (ad 2 x10) fun v11=>bd (ld1 st2 v11) fun v12=>bd2 (bJ st2 1 (av (fun i=>some (i*1,1)) (List.replicate 1 [LV.str []]).flatten [(0,x13)])) fun v13 st14=>bd2 (aP st14 1 16 Md.rw v12 v13) fun v15 st16=>bd (ad 2 x10) fun v17=>bd2 (lmk (stV st16 1 v17 v15)) fun _v18 st19=>bd (ad 3 x10) fun v20=>bd (ld1 st19 v20) fun v21=>bd2 (bJ st19 1 (av (fun i=>some (i*1,1)) (List.replicate 1 [LV.bool false]).flatten [(0,x15)])) fun v22 st23=>bd2 (aP st23 1 1 Md.rw v21 v22) fun v24 st25=>bd (ad 3 x10) fun v26=>bd2 (lmk (stV st25 1 v26 v24)) fun _v27 st28=>P244_32 x0 v10 x2 x3 x8 x9 x10 x11 R st28))
 (LZ 243 [x0,x1] st fun v29 st30=>bd (aj BinOp.neq v29 (i64 58)) fun v31=>ak v31
 (bd (ldA st30 x10 4) fun v32=>bd (aN (av (ax [(0,1),(1,1)]) [i64 0,i64 0] [(0,x1),(1,i64 4)])) fun v33=>bd2 (lmk (stV st30 4 x8 v32)) fun _v34 st35=>bd2 (lmk (stV st35 2 x9 v33)) fun _v36 st37=>P244_29 x8 x9 R st37)
 (bd (aj BinOp.add x1 (i64 1)) fun v38=>bd (ad 2 x10) fun v39=>bd (ld1 st30 v39) fun v40=>bd2 (bJ st30 1 (av (fun i=>some (i*1,1)) (List.replicate 1 [LV.str []]).flatten [(0,x13)])) fun v41 st42=>bd2 (aP st42 1 16 Md.rw v40 v41) fun v43 st44=>bd (ad 2 x10) fun v45=>bd2 (lmk (stV st44 1 v45 v43)) fun _v46 st47=>bd (ad 3 x10) fun v48=>bd (ld1 st47 v48) fun v49=>bd2 (bJ st47 1 (av (fun i=>some (i*1,1)) (List.replicate 1 [LV.bool false]).flatten [(0,x15)])) fun v50 st51=>bd2 (aP st51 1 1 Md.rw v49 v50) fun v52 st53=>bd (ad 3 x10) fun v54=>bd2 (lmk (stV st53 1 v54 v52)) fun _v55 st56=>P244_32 x0 v38 x2 x3 x8 x9 x10 x11 R st56))
theorem p244_25 (x0 x1 x2 x3 x8 x9 x10 x11 x13 x15:LV) {R:LV.RT} {st:aa} (h:w244_25 x0 x1 x2 x3 x8 x9 x10 x11 x13 x15 R st):P244_25 x0 x1 x2 x3 x8 x9 x10 x11 x13 x15 R st:=
 pz l9 ma h
def w244_29 (x8 x9:LV) (R:LV.RT) (st:aa):Prop:=
 bd (ldA st x8 4) fun v0=>bd (ldA st x9 2) fun v1=>R (LV.tup [v0,v1]) st
theorem p244_29 (x8 x9:LV) {R:LV.RT} {st:aa} (h:w244_29 x8 x9 R st):P244_29 x8 x9 R st:=
 pz l9 ma h
def w244_32 (x0 x1 x2 x3 x8 x9 x10 x11:LV) (R:LV.RT) (st:aa):Prop:=
 bd (aj BinOp.add x2 (i64 1)) fun v0=>LZ 196 [x0,x1,v0] st fun v1 st2=>bd (ar v1 0) fun v3=>bd (ar v1 1) fun v4=>nw st2 [i64 0,LV.nils,LV.nils,LV.nils] fun v5 st6=>nw st6 [i64 0,i64 0] fun v7 st8=>bd2 (lmk (stV st8 4 v5 v3)) fun _v9 st10=>bd2 (lmk (stV st10 2 v7 v4)) fun _v11 st12=>bd (ad 1 v7) fun v13=>bd (ld1 st12 v13) fun v14=>bd (aj BinOp.neq v14 (i64 0)) fun v15=>ak v15
 (bd (ldA st12 x10 4) fun v16=>bd (ldA st12 v7 2) fun v17=>bd2 (lmk (stV st12 4 x8 v16)) fun _v18 st19=>ldA st19 v7 2=some v17∧bd2 (lmk (stV st19 2 x9 v17)) fun _v20 st21=>P244_35 x8 x9 R st21)
 (bd (ad 1 x10) fun v22=>bd (ld1 st12 v22) fun v23=>bd (ldA st12 v5 4) fun v24=>bd2 (bJ st12 1 (av (fun i=>some (i*4,4)) (List.replicate 1 [i64 0,LV.nils,LV.nils,LV.nils]).flatten [(0,v24)])) fun v25 st26=>bd2 (aP st26 4 80 Md.rw v23 v25) fun v27 st28=>bd (ad 1 x10) fun v29=>bd2 (lmk (stV st28 1 v29 v27)) fun _v30 st31=>bd (ad 0 v7) fun v32=>bd (ld1 st31 v32) fun v33=>LZ 243 [x0,v33] st31 fun v34 st35=>bd (fj IntKind.i64 x11) fun v36=>bd (aj BinOp.eql v34 v36) fun v37=>ak v37
 (bd (ldA st35 x10 4) fun v38=>bd (aj BinOp.add v33 (i64 1)) fun v39=>bd (aN (av (ax [(0,1),(1,1)]) [i64 0,i64 0] [(0,v39),(1,i64 0)])) fun v40=>bd2 (lmk (stV st35 4 x8 v38)) fun _v41 st42=>bd2 (lmk (stV st42 2 x9 v40)) fun _v43 st44=>bd (ldA st44 x8 4) fun v45=>bd (ldA st44 x9 2) fun v46=>R (LV.tup [v45,v46]) st44)
 (LZ 243 [x0,v33] st35 fun v47 st48=>bd (aj BinOp.neq v47 (i64 44)) fun v49=>ak v49
 (bd (ldA st48 x10 4) fun v50=>bd (aN (av (ax [(0,1),(1,1)]) [i64 0,i64 0] [(0,v33),(1,i64 4)])) fun v51=>bd2 (lmk (stV st48 4 x8 v50)) fun _v52 st53=>bd2 (lmk (stV st53 2 x9 v51)) fun _v54 st55=>bd (ldA st55 x8 4) fun v56=>bd (ldA st55 x9 2) fun v57=>R (LV.tup [v56,v57]) st55)
 (bd (aj BinOp.add v33 (i64 1)) fun v58=>P244_10 x0 v58 x2 x3 x8 x9 x10 x11 R st48)))
theorem p244_32 (x0 x1 x2 x3 x8 x9 x10 x11:LV) {R:LV.RT} {st:aa} (h:w244_32 x0 x1 x2 x3 x8 x9 x10 x11 R st):P244_32 x0 x1 x2 x3 x8 x9 x10 x11 R st:=
 pz l9 ma h
def w244_35 (x8 x9:LV) (R:LV.RT) (st:aa):Prop:=
 bd (ldA st x8 4) fun v0=>bd (ldA st x9 2) fun v1=>R (LV.tup [v0,v1]) st
theorem p244_35 (x8 x9:LV) {R:LV.RT} {st:aa} (h:w244_35 x8 x9 R st):P244_35 x8 x9 R st:=
 pz l9 ma h
end Go.Proofs.YtknegckgmklnhaaGreatDoor
