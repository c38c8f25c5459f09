/- Parts of the proof. -/
import Derived.Test.YtknegckgmklnhaaGreatDoorVbW
namespace Go.Proofs.YtknegckgmklnhaaGreatDoor
open Go Go.CP
set_option maxRecDepth 100000
def P9_10 (x5 x6 x8 x9 x54:LV) (R:LV.RT) (st:aa):Prop:=LTg Tryz.prog (kindOf false) [.tmp 4] (aZ Tryz.f9 10) [] R (LV.jk 5 (x5::x6::.aQ::x8::x9::(LV.jk 44 (x54::(LV.jk 55 []))))) st
def gl9:List Nat:=(LV.gx 0 110 [5,6,8,9,11])
def rc9:List (Nat × List Nat):=[(10,(LV.gx 0 110 [5,6,8,9,54])),(15,(LV.gx 0 110 [5,6,8,9,11,12])),(16,(LV.gx 0 110 [5,6,8,9,11,12,14,15]))]
def w9 (a0 a1:LV) (R:LV.RT) (st:aa):Prop:=
 bd2 (ej st a1) fun v0 st1=>bd (ldA st1 v0 7) fun v2=>LZ 24 [v2] st1 fun v3 st4=>bd (aj BinOp.gtr v3 (i64 0)) fun v5=>ak v5 (LZ 17 [] st4 fun v6 st7=>R v6 st7)
 (LZ 17 [] st4 fun v8 st9=>bd (lun UnOp.not v8) fun v10=>ak v10 (LZ 17 [] st9 fun v11 st12=>R v11 st12)
 (LZ 26 [a0] st9 fun v13 st14=>bd (ar v13 0) fun v15=>bd (ar v13 1) fun v16=>bd (ar v13 2) fun v17=>nw st14 [i64 0,LV.nils] fun v18 st19=>bd2 (lmk (stV st19 2 v18 v16)) fun _v20 st21=>bd (ldA st21 v0 7) fun v22=>LZ 27 [v22] st21 fun v23 st24=>LZ 29 [v23] st24 fun v25 st26=>nw st26 [LV.nili] fun v27 st28=>bd2 (lmk (stV st28 1 v27 v25)) fun _v29 st30=>bd (aj BinOp.gtr v17 (i64 0)) fun v31=>ak v31 (R (LV.bool true) st30)
 (bd (ldA st30 v27 1) fun v32=>LZ 42 [v15,v32] st30 fun v33 st34=>bd (ar v33 0) fun v35=>bd (ar v33 1) fun v36=>nw st34 [LV.nili] fun v37 st38=>bd2 (lmk (stV st38 1 v37 v35)) fun _v39 st40=>bd (aj BinOp.neq v36 (i64 0)) fun v41=>ak v41
 (bd (ldA st40 v37 1) fun v42=>LZ 46 [v42] st40 fun v43 st44=>bd (aj BinOp.eql v43 (i64 0)) fun v45=>R v45 st44)
 (bd (ldA st40 v37 1) fun v46=>bd (ad 1 v18) fun v47=>bd (ld1 st40 v47) fun v48=>bd (bD v48) fun v49=>LZ 49 [v46] st40 fun v50 st51=>ld1 st51 v47=some v48∧bd (bD v50) fun v52=>bd (aj BinOp.neq v52 v49) fun v53=>P9_10 v15 v18 v27 v37 v53 R st51))))
theorem c9 (a0 a1:LV) {R:LV.RT} {st:aa} (h:w9 a0 a1 R st):LZ 9 [a0,a1] st R:=
 cz gl9 rc9 [.tmp 4] Tryz.func9 h
def P3_12 (x0 x1 x5 x6 x7 x8:LV) (R:LV.RT) (st:aa):Prop:=LTg Tryz.prog (kindOf false) [.tmp 4] (aZ Tryz.f3 12) [] R (x0::x1::(LV.jk 3 (x5::x6::x7::x8::(LV.jk 167 [])))) st
def P3_18 (x0 x1 x5 x6 x7 x8 x11:LV) (R:LV.RT) (st:aa):Prop:=LTg Tryz.prog (kindOf false) [.tmp 4] (aZ Tryz.f3 18) [] R (x0::x1::(LV.jk 3 (x5::x6::x7::x8::.aQ::.aQ::x11::(LV.jk 164 [])))) st
def gl3:List Nat:=(LV.gx 2 174 [5,6,7,8])
def rc3:List (Nat × List Nat):=[(16,(LV.gx 2 174 [5,6,7,8,11]))]
def w3 (a0 a1:LV) (R:LV.RT) (st:aa):Prop:=
 bd (bD a1) fun v0=>bd (aj BinOp.gtr v0 (i64 20)) fun v1=>ak v1 (LZ 17 [] st fun v2 st3=>R v2 st3)
 (LZ 17 [] st fun v4 st5=>bd (lun UnOp.not v4) fun v6=>ak v6 (LZ 17 [] st5 fun v7 st8=>R v7 st8)
 (bd (aj BinOp.lss a0 (i64 0)) fun v9=>ak v9 (P3_12 a0 a1 LV.nils (i64 2) (LV.str []) (i64 0) R st5)
 (bd (aj BinOp.gtr a0 (i64 1000)) fun v10=>ak v10 (P3_12 a0 a1 LV.nils (i64 2) (LV.str []) (i64 0) R st5)
 (bd (bD a1) fun v11=>bd (aj BinOp.gtr v11 (i64 16)) fun v12=>ak v12 (P3_12 a0 a1 LV.nils (i64 3) (LV.str []) (i64 0) R st5)
 (P3_12 a0 a1 LV.nils (i64 0) (LV.str []) (i64 0) R st5)))))
theorem c3 (a0 a1:LV) {R:LV.RT} {st:aa} (h:w3 a0 a1 R st):LZ 3 [a0,a1] st R:=
 cz gl3 rc3 [.tmp 4] Tryz.func3 h
def w3_12 (x0 x1 x5 x6 x7 x8:LV) (R:LV.RT) (st:aa):Prop:=
 bd (bD x1) fun v0=>bd (aj BinOp.lss x8 v0) fun v1=>ak v1
 (bd (bh 10 x1 x8) fun v2=>bd (ad 0 v2) fun v3=>bd (ld1 st v3) fun v4=>bd (bo v4) fun v5=>bd (aj BinOp.gtr v5 (i64 60)) fun v6=>ak v6 (R (LV.bool true) st)
 (bd (bh 10 x1 x8) fun v7=>bd (ad 1 v7) fun v8=>bd (ld1 st v8) fun v9=>bd (bo v9) fun v10=>bd (aj BinOp.gtr v10 (i64 100)) fun v11=>ak v11 (R (LV.bool true) st)
 (bd (bh 10 x1 x8) fun v12=>bd (ad 1 v12) fun v13=>bd (ld1 st v13) fun v14=>LZ 18 [v14] st fun v15 st16=>bd (ar v15 0) fun v17=>bd (ar v15 1) fun _v18=>bd (ar v15 2) fun v19=>bd (bh 10 x1 x8) fun v20=>bd (ad 0 v20) fun v21=>bd (ld1 st16 v21) fun v22=>bd (bh 10 x1 x8) fun v23=>bd (ad 6 v23) fun v24=>bd (ld1 st16 v24) fun v25=>bd (bh 10 x1 x8) fun v26=>bd (ad 7 v26) fun v27=>bd (ld1 st16 v27) fun v28=>bd (bh 10 x1 x8) fun v29=>bd (ad 8 v29) fun v30=>bd (ld1 st16 v30) fun v31=>bd (bh 10 x1 x8) fun v32=>bd (ad 9 v32) fun v33=>bd (ld1 st16 v33) fun v34=>bd
 (aN
 (av (ax [(0,1),(1,1),(2,1),(3,1),(4,1),(5,1)])
 [LV.str [],LV.nilp,LV.bool false,LV.bool false,LV.bool false,LV.bool false]
 [(0,v22),(1,v17),(2,v25),(3,v28),(4,v31),(5,v34)]))
 fun v35=>bd2
 (bJ st16 1
 (av (fun i=>some (i*6,6))
 (List.replicate 1 [LV.str [],LV.nilp,LV.bool false,LV.bool false,LV.bool false,LV.bool false]).flatten
 [(0,v35)]))
 fun v36 st37=>bd2 (aP st37 6 32 Md.rw x5 v36) fun v38 st39=>P3_18 x0 x1 v38 x6 x7 x8 v19 R st39)))
 (LZ 20 [x0,x5] st fun v40 st41=>bd (ar v40 0) fun v42=>bd (ar v40 1) fun v43=>bd (aj BinOp.neq x6 (i64 0)) fun v44=>ak v44 (bd (eqB BinOp.eql (cV true v42 LV.nilp)) fun v45=>ak v45 (bd (aj BinOp.eql v43 x6) fun v46=>R v46 st41) (R (LV.bool false) st41))
 (LZ 22 [v42] st41 fun v47 st48=>LZ 21 [v47] st48 fun v49 st50=>bd (ar v49 0) fun v51=>bd (ar v49 1) fun _v52=>bd (ar v49 2) fun v53=>bd (aj BinOp.eql v43 (i64 0)) fun v54=>ak v54 (bd (aj BinOp.eql v53 (i64 0)) fun v55=>ak v55 (LZ 23 [v42,v51] st50 fun v56 st57=>R v56 st57) (R (LV.bool false) st50))
 (R (LV.bool false) st50)))
theorem p3_12 (x0 x1 x5 x6 x7 x8:LV) {R:LV.RT} {st:aa} (h:w3_12 x0 x1 x5 x6 x7 x8 R st):P3_12 x0 x1 x5 x6 x7 x8 R st:=
 pz gl3 rc3 h
def w3_18 (x0 x1 x5 x6 x7 x8 x11:LV) (R:LV.RT) (st:aa):Prop:=
 bd (aj BinOp.neq x6 (i64 0)) fun v0=>ak v0 (bd (aj BinOp.add x8 (i64 1)) fun v1=>P3_12 x0 x1 x5 x6 x7 v1 R st)
 (bd (bh 10 x1 x8) fun v2=>bd (ad 0 v2) fun v3=>bd (ld1 st v3) fun v4=>LZ 19 [v4] st fun v5 st6=>bd (lun UnOp.not v5) fun v7=>ak v7
 (bd (bh 10 x1 x8) fun v8=>bd (ad 0 v8) fun v9=>bd (ld1 st6 v9) fun v10=>bd (aj BinOp.add x8 (i64 1)) fun v11=>P3_12 x0 x1 x5 (i64 7) v10 v11 R st6)
 (bd (bh 10 x1 x8) fun v12=>bd (ad 0 v12) fun v13=>bd (ld1 st6 v13) fun v14=>bd (bg BinOp.eql v14 x7) fun v15=>ak v15
 (bd (bh 10 x1 x8) fun v16=>bd (ad 0 v16) fun v17=>bd (ld1 st6 v17) fun v18=>bd (aj BinOp.add x8 (i64 1)) fun v19=>P3_12 x0 x1 x5 (i64 9) v18 v19 R st6)
 (bd (bh 10 x1 x8) fun v20=>bd (ad 0 v20) fun v21=>bd (ld1 st6 v21) fun v22=>bd (bg BinOp.lss v22 x7) fun v23=>ak v23
 (bd (bh 10 x1 x8) fun v24=>bd (ad 0 v24) fun v25=>bd (ld1 st6 v25) fun v26=>bd (aj BinOp.add x8 (i64 1)) fun v27=>P3_12 x0 x1 x5 (i64 4) v26 v27 R st6)
 (bd (aj BinOp.neq x11 (i64 0)) fun v28=>ak v28
 (bd (bh 10 x1 x8) fun v29=>bd (ad 0 v29) fun v30=>bd (ld1 st6 v30) fun v31=>bd (aj BinOp.add x8 (i64 1)) fun v32=>P3_12 x0 x1 x5 (i64 6) v31 v32 R st6)
 (bd (bh 10 x1 x8) fun v33=>bd (ad 6 v33) fun v34=>bd (ld1 st6 v34) fun v35=>ak v35
 (bd (bh 10 x1 x8) fun v36=>bd (ad 7 v36) fun v37=>bd (ld1 st6 v37) fun v38=>ak v38
 (bd (bh 10 x1 x8) fun v39=>bd (ad 0 v39) fun v40=>bd (ld1 st6 v40) fun v41=>bd (aj BinOp.add x8 (i64 1)) fun v42=>P3_12 x0 x1 x5 (i64 1) v41 v42 R st6)
 (bd (bh 10 x1 x8) fun v43=>bd (ad 0 v43) fun v44=>bd (ld1 st6 v44) fun v45=>bd (aj BinOp.add x8 (i64 1)) fun v46=>P3_12 x0 x1 x5 x6 v45 v46 R st6))
 (bd (bh 10 x1 x8) fun v47=>bd (ad 0 v47) fun v48=>bd (ld1 st6 v48) fun v49=>bd (aj BinOp.add x8 (i64 1)) fun v50=>P3_12 x0 x1 x5 x6 v49 v50 R st6))))))
theorem p3_18 (x0 x1 x5 x6 x7 x8 x11:LV) {R:LV.RT} {st:aa} (h:w3_18 x0 x1 x5 x6 x7 x8 x11 R st):P3_18 x0 x1 x5 x6 x7 x8 x11 R st:=
 pz gl3 rc3 h
def P5_8 (x1 x5 x8 x11 x90:LV) (R:LV.RT) (st:aa):Prop:=LTg Tryz.prog (kindOf false) [.tmp 4] (aZ Tryz.f5 8) [] R (.aQ::x1::(LV.jk 3 (x5::.aQ::.aQ::x8::.aQ::.aQ::x11::(LV.jk 78 (x90::(LV.jk 101 [])))))) st
def P5_12 (x1 x5 x8 x11 x12:LV) (R:LV.RT) (st:aa):Prop:=LTg Tryz.prog (kindOf false) [.tmp 4] (aZ Tryz.f5 12) [] R (.aQ::x1::(LV.jk 3 (x5::.aQ::.aQ::x8::.aQ::.aQ::x11::x12::(LV.jk 179 [])))) st
def gl5:List Nat:=(LV.gx 0 192 [1,5,8,11,12])
def rc5:List (Nat × List Nat):=[(8,(LV.gx 0 192 [1,5,8,11,90]))]
def w5 (a0 a1:LV) (R:LV.RT) (st:aa):Prop:=
 bd (bo a0) fun v0=>bd (aj BinOp.gtr v0 (i64 600)) fun v1=>ak v1 (LZ 17 [] st fun v2 st3=>R v2 st3)
 (bd (bo a1) fun v4=>bd (aj BinOp.gtr v4 (i64 60)) fun v5=>ak v5 (LZ 17 [] st fun v6 st7=>R v6 st7)
 (LZ 17 [] st fun v8 st9=>bd (lun UnOp.not v8) fun v10=>ak v10 (LZ 17 [] st9 fun v11 st12=>R v11 st12)
 (LZ 21 [a0] st9 fun v13 st14=>bd (ar v13 0) fun v15=>bd (ar v13 1) fun v16=>bd (ar v13 2) fun v17=>LZ 35 [a0] st14 fun v18 st19=>bd (ar v18 0) fun v20=>bd (ar v18 1) fun v21=>bd (ar v18 2) fun v22=>nw st19 [i64 0,LV.nils] fun v23 st24=>bd2 (lmk (stV st24 2 v23 v20)) fun _v25 st26=>bd (aj BinOp.neq v22 (i64 0)) fun v27=>ak v27
 (bd (eqB BinOp.eql (cV true v15 LV.nilp)) fun v28=>ak v28 (bd (aj BinOp.eql v16 v21) fun v29=>ak v29 (bd (aj BinOp.eql v17 v22) fun v30=>R v30 st26) (R (LV.bool false) st26))
 (R (LV.bool false) st26))
 (LZ 36 [v15] st26 fun v31 st32=>bd (aj BinOp.neq v16 (i64 0)) fun v33=>ak v33 (P5_8 a1 v15 v23 v31 (LV.bool true) R st32)
 (bd (aj BinOp.neq v17 (i64 0)) fun v34=>ak v34 (P5_8 a1 v15 v23 v31 (LV.bool true) R st32)
 (LZ 22 [v15] st32 fun v35 st36=>bd (bg BinOp.neq v35 a0) fun v37=>ak v37 (P5_8 a1 v15 v23 v31 (LV.bool true) R st36)
 (bd (ad 0 v23) fun v38=>bd (ld1 st36 v38) fun v39=>LZ 37 [v15] st36 fun v40 st41=>ld1 st41 v38=some v39∧
 bd (aj BinOp.neq v40 v39) fun v42=>ak v42 (P5_8 a1 v15 v23 v31 (LV.bool true) R st41)
 (bd (bD v31) fun v43=>bd (ad 1 v23) fun v44=>bd (ld1 st41 v44) fun v45=>bd (bD v45) fun v46=>bd (aj BinOp.neq v43 v46) fun v47=>ak v47 (P5_8 a1 v15 v23 v31 (LV.bool true) R st41)
 (LZ 23 [v15,v15] st41 fun v48 st49=>bd (lun UnOp.not v48) fun v50=>P5_8 a1 v15 v23 v31 v50 R st49)))))))))
theorem c5 (a0 a1:LV) {R:LV.RT} {st:aa} (h:w5 a0 a1 R st):LZ 5 [a0,a1] st R:=
 cz gl5 rc5 [.tmp 4] Tryz.func5 h
def w5_8 (x1 x5 x8 x11 x90:LV) (R:LV.RT) (st:aa):Prop:=
 ak x90 (R (LV.bool false) st) (P5_12 x1 x5 x8 x11 (i64 0) R st)
theorem p5_8 (x1 x5 x8 x11 x90:LV) {R:LV.RT} {st:aa} (h:w5_8 x1 x5 x8 x11 x90 R st):P5_8 x1 x5 x8 x11 x90 R st:=
 pz gl5 rc5 h
def w5_12 (x1 x5 x8 x11 x12:LV) (R:LV.RT) (st:aa):Prop:=
 bd (bD x11) fun v0=>bd (aj BinOp.lss x12 v0) fun v1=>ak v1
 (bd (ad 1 x8) fun v2=>bd (ld1 st v2) fun v3=>bd (bh 10 v3 x12) fun v4=>bd (ldA st v4 10) fun v5=>nw st [LV.str [],LV.str [],i64 0,LV.nils,LV.nils,LV.nils,LV.bool false,LV.bool false,LV.bool false,LV.bool false] fun v6 st7=>bd2 (lmk (stV st7 10 v6 v5)) fun _v8 st9=>bd (bh 6 x11 x12) fun v10=>bd (ad 0 v10) fun v11=>bd (ld1 st9 v11) fun v12=>bd (ad 0 v6) fun v13=>bd (ld1 st9 v13) fun v14=>bd (bg BinOp.neq v12 v14) fun v15=>ak v15 (R (LV.bool false) st9)
 (bd (bh 6 x11 x12) fun v16=>bd (ad 1 v16) fun v17=>bd (ld1 st9 v17) fun v18=>bd (ad 1 v6) fun v19=>bd (ld1 st9 v19) fun v20=>LZ 38 [v18] st9 fun v21 st22=>ld1 st22 v19=some v20∧
 bd (bg BinOp.neq v21 v20) fun v23=>ak v23 (R (LV.bool false) st22)
 (bd (bh 6 x11 x12) fun v24=>bd (ad 2 v24) fun v25=>bd (ld1 st22 v25) fun v26=>bd (ad 6 v6) fun v27=>bd (ld1 st22 v27) fun v28=>bd (je BinOp.neq v26 v28) fun v29=>ak v29 (R (LV.bool false) st22)
 (bd (bh 6 x11 x12) fun v30=>bd (ad 3 v30) fun v31=>bd (ld1 st22 v31) fun v32=>bd (ad 7 v6) fun v33=>bd (ld1 st22 v33) fun v34=>bd (je BinOp.neq v32 v34) fun v35=>ak v35 (R (LV.bool false) st22)
 (bd (bh 6 x11 x12) fun v36=>bd (ad 4 v36) fun v37=>bd (ld1 st22 v37) fun v38=>bd (ad 8 v6) fun v39=>bd (ld1 st22 v39) fun v40=>bd (je BinOp.neq v38 v40) fun v41=>ak v41 (R (LV.bool false) st22)
 (bd (bh 6 x11 x12) fun v42=>bd (ad 5 v42) fun v43=>bd (ld1 st22 v43) fun v44=>bd (ad 9 v6) fun v45=>bd (ld1 st22 v45) fun v46=>bd (je BinOp.neq v44 v46) fun v47=>ak v47 (R (LV.bool false) st22)
 (bd (aj BinOp.add x12 (i64 1)) fun v48=>P5_12 x1 x5 x8 x11 v48 R st22)))))))
 (LZ 39 [x5,x1] st fun v49 st50=>bd (ar v49 0) fun v51=>bd (ar v49 1) fun v52=>nw st50 [LV.str [],LV.nilp,LV.bool false,LV.bool false,LV.bool false,LV.bool false] fun v53 st54=>bd2 (lmk (stV st54 6 v53 v51)) fun _v55 st56=>bd (ldA st56 x8 2) fun v57=>LZ 40 [v57,x1] st56 fun v58 st59=>bd (aj BinOp.geq v58 (i64 0)) fun v60=>bd (je BinOp.eql v52 v60) fun v61=>ak v61
 (bd (lun UnOp.not v52) fun v62=>ak v62
 (bd (ad 0 v53) fun v63=>bd (ld1 st59 v63) fun v64=>bd (bg BinOp.eql v64 (LV.str [])) fun v65=>ak v65 (R (LV.bool true) st59)
 (ak v52 (bd (ad 0 v53) fun v66=>bd (ld1 st59 v66) fun v67=>bd (bg BinOp.eql v67 x1) fun v68=>R v68 st59) (R (LV.bool false) st59)))
 (ak v52 (bd (ad 0 v53) fun v69=>bd (ld1 st59 v69) fun v70=>bd (bg BinOp.eql v70 x1) fun v71=>R v71 st59) (R (LV.bool false) st59)))
 (R (LV.bool false) st59))
theorem p5_12 (x1 x5 x8 x11 x12:LV) {R:LV.RT} {st:aa} (h:w5_12 x1 x5 x8 x11 x12 R st):P5_12 x1 x5 x8 x11 x12 R st:=
 pz gl5 rc5 h
end Go.Proofs.YtknegckgmklnhaaGreatDoor
