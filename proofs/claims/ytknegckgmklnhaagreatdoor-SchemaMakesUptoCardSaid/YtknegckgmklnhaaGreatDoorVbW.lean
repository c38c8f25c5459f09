/- Parts of the proof. -/
import Derived.Test.YtknegckgmklnhaaGreatDoorCp41
import Derived.Test.YtknegckgmklnhaaGreatDoorCp50
namespace Go.Proofs.YtknegckgmklnhaaGreatDoor
open Go Go.CP
theorem pz (gl:List Nat) (rc:List (Nat × List Nat)) {dk:Bool} {rs:List ResultVar} {R:LV.RT} {k:List Item} {ds:List dC} {t:List LV} {st:aa} {W:Prop} (h:W) (e:fw Tryz.prog dk rs R gl [] rc 3000 (jB k) ds t st=W:=by kernel_rfl):LTg Tryz.prog (kindOf dk) rs k ds R t st:=LTg.atE dB e h
theorem cz (gl:List Nat) (rc:List (Nat × List Nat)) (rs:List ResultVar) {f:FuncId} {fn:Func} {xs:List LV} {st:aa} {R:LV.RT} {W:Prop} (hf:Tryz.prog.funcs[f]?=some fn) (h:W) (hb:fn.body=some (dz fn):=by kernel_rfl) (hn:(fn.name == "runtime.NumGoroutine")=false:=by kernel_rfl) (hrs:fn.results.toList=rs:=by kernel_rfl) (e:fw Tryz.prog false rs R gl [] rc 3000 [.code (dz fn)] [] (xs++List.replicate (fn.ntmps-xs.length) aB) st=W:=by kernel_rfl):au Tryz.prog f xs st R:=au.ofE dB hf hb hn hrs e h
set_option maxRecDepth 100000
def w75 (a0:LV) (R:LV.RT) (st:aa):Prop:=
 bd (af a0) fun v0=>bd (ad 2 v0) fun v1=>bd (ld1 st v1) fun v2=>bd (aj BinOp.neq v2 (i64 0)) fun v3=>R v3 st
theorem c75 (a0:LV) {R:LV.RT} {st:aa} (h:w75 a0 R st):LZ 75 [a0] st R:=
 cz [] [] [.tmp 2] Tryz.func75 h
def w76 (a0 a1 a2:LV) (R:LV.RT) (st:aa):Prop:=
 bd (af a0) fun v0=>bd (ad 2 v0) fun v1=>bd (ld1 st v1) fun v2=>bd (aj BinOp.eql v2 (i64 0)) fun v3=>ak v3
 (bd (af a0) fun v4=>bd (ad 1 v4) fun v5=>bd2 (lmk (stV st 1 v5 a1)) fun _v6 st7=>bd (af a0) fun v8=>bd (ad 2 v8) fun v9=>bd2 (lmk (stV st7 1 v9 a2)) fun _v10 st11=>R (LV.tup []) st11)
 (R (LV.tup []) st)
theorem c76 (a0 a1 a2:LV) {R:LV.RT} {st:aa} (h:w76 a0 a1 a2 R st):LZ 76 [a0,a1,a2] st R:=
 cz [] [] [] Tryz.func76 h
def P137_1 (x0 x31:LV) (R:LV.RT) (st:aa):Prop:=LTg Tryz.prog (kindOf false) [.tmp 4] (aZ Tryz.f137 1) [] R (x0::(LV.jk 30 (x31::(LV.jk 7 [])))) st
def Bu:List (Nat × List Nat):=[(1,(LV.gx 1 38 [31]))]
def w137 (a0 a1:LV) (R:LV.RT) (st:aa):Prop:=
 LZ 75 [a0] st fun v0 st1=>ak v0 (P137_1 a0 (LV.bool true) R st1)
 (bd (af a0) fun v2=>bd (ad 1 v2) fun v3=>bd (ld1 st1 v3) fun v4=>bd (af a0) fun v5=>bd (ad 0 v5) fun v6=>bd (ld1 st1 v6) fun v7=>bd (bo v7) fun v8=>bd (aj BinOp.geq v4 v8) fun v9=>ak v9 (P137_1 a0 (LV.bool true) R st1)
 (bd (af a0) fun v10=>bd (ad 0 v10) fun v11=>bd (ld1 st1 v11) fun v12=>bd (af a0) fun v13=>bd (ad 1 v13) fun v14=>bd (ld1 st1 v14) fun v15=>bd (cn v12 v15) fun v16=>bd (aj BinOp.neq v16 a1) fun v17=>P137_1 a0 v17 R st1))
theorem c137 (a0 a1:LV) {R:LV.RT} {st:aa} (h:w137 a0 a1 R st):LZ 137 [a0,a1] st R:=
 cz [] Bu [.tmp 4] Tryz.func137 h
def w137_1 (x0 x31:LV) (R:LV.RT) (st:aa):Prop:=
 ak x31 (R (LV.bool false) st)
 (bd (af x0) fun v0=>bd (ad 1 v0) fun v1=>bd (ld1 st v1) fun v2=>bd (aj BinOp.add v2 (i64 1)) fun v3=>bd (af x0) fun v4=>bd (ad 1 v4) fun v5=>bd2 (lmk (stV st 1 v5 v3)) fun _v6 st7=>R (LV.bool true) st7)
theorem p137_1 (x0 x31:LV) {R:LV.RT} {st:aa} (h:w137_1 x0 x31 R st):P137_1 x0 x31 R st:=
 pz [] Bu h
def w184 (a0 a1:LV) (R:LV.RT) (st:aa):Prop:=
 LZ 75 [a0] st fun v0 st1=>bd (lun UnOp.not v0) fun v2=>ak v2
 (LZ 137 [a0,a1] st1 fun v3 st4=>bd (lun UnOp.not v3) fun v5=>ak v5 (bd (af a0) fun v6=>bd (ad 1 v6) fun v7=>bd (ld1 st4 v7) fun v8=>LZ 76 [a0,v8,i64 4] st4 fun _v9 st10=>R (LV.tup []) st10)
 (R (LV.tup []) st4))
 (R (LV.tup []) st1)
theorem c184 (a0 a1:LV) {R:LV.RT} {st:aa} (h:w184 a0 a1 R st):LZ 184 [a0,a1] st R:=
 cz [] [] [] Tryz.func184 h
def w262 (a0:LV) (R:LV.RT) (st:aa):Prop:=
 bd (aj BinOp.geq a0 (LV.int IntKind.u8 97)) fun v0=>ak v0
 (bd (aj BinOp.leq a0 (LV.int IntKind.u8 122)) fun v1=>ak v1 (R (LV.bool true) st) (bd (aj BinOp.geq a0 (LV.int IntKind.u8 48)) fun v2=>ak v2 (bd (aj BinOp.leq a0 (LV.int IntKind.u8 57)) fun v3=>R v3 st) (R (LV.bool false) st)))
 (bd (aj BinOp.geq a0 (LV.int IntKind.u8 48)) fun v4=>ak v4 (bd (aj BinOp.leq a0 (LV.int IntKind.u8 57)) fun v5=>R v5 st) (R (LV.bool false) st))
theorem c262 (a0:LV) {R:LV.RT} {st:aa} (h:w262 a0 R st):LZ 262 [a0] st R:=
 cz [] [] [.tmp 2] Tryz.func262 h
def P142_3 (x0 x6 x7:LV) (R:LV.RT) (st:aa):Prop:=LTg Tryz.prog (kindOf false) [.tmp 2] (aZ Tryz.f142 3) [] R (x0::(LV.jk 5 (x6::x7::(LV.jk 32 [])))) st
def Bv:List Nat:=(LV.gx 1 39 [6,7])
def w142 (a0:LV) (R:LV.RT) (st:aa):Prop:=
 bd (bo a0) fun v0=>P142_3 a0 v0 (i64 0) R st
theorem c142 (a0:LV) {R:LV.RT} {st:aa} (h:w142 a0 R st):LZ 142 [a0] st R:=
 cz Bv [] [.tmp 2] Tryz.func142 h
def w142_3 (x0 x6 x7:LV) (R:LV.RT) (st:aa):Prop:=
 bd (aj BinOp.lss x7 x6) fun v0=>ak v0
 (bd (cn x0 x7) fun v1=>bd (aj BinOp.geq v1 (LV.int IntKind.u8 97)) fun v2=>ak v2
 (bd (aj BinOp.leq v1 (LV.int IntKind.u8 122)) fun v3=>ak v3 (bd (lun UnOp.not (LV.bool true)) fun v4=>ak v4 (R (LV.bool false) st) (bd (aj BinOp.add x7 (i64 1)) fun v5=>P142_3 x0 x6 v5 R st))
 (bd (aj BinOp.gtr x7 (i64 0)) fun v6=>ak v6
 (bd (aj BinOp.geq v1 (LV.int IntKind.u8 48)) fun v7=>ak v7
 (bd (aj BinOp.leq v1 (LV.int IntKind.u8 57)) fun v8=>bd (lun UnOp.not v8) fun v9=>ak v9 (R (LV.bool false) st) (bd (aj BinOp.add x7 (i64 1)) fun v10=>P142_3 x0 x6 v10 R st))
 (bd (lun UnOp.not (LV.bool false)) fun v11=>ak v11 (R (LV.bool false) st) (bd (aj BinOp.add x7 (i64 1)) fun v12=>P142_3 x0 x6 v12 R st)))
 (bd (lun UnOp.not (LV.bool false)) fun v13=>ak v13 (R (LV.bool false) st) (bd (aj BinOp.add x7 (i64 1)) fun v14=>P142_3 x0 x6 v14 R st))))
 (bd (aj BinOp.gtr x7 (i64 0)) fun v15=>ak v15
 (bd (aj BinOp.geq v1 (LV.int IntKind.u8 48)) fun v16=>ak v16
 (bd (aj BinOp.leq v1 (LV.int IntKind.u8 57)) fun v17=>bd (lun UnOp.not v17) fun v18=>ak v18 (R (LV.bool false) st) (bd (aj BinOp.add x7 (i64 1)) fun v19=>P142_3 x0 x6 v19 R st))
 (bd (lun UnOp.not (LV.bool false)) fun v20=>ak v20 (R (LV.bool false) st) (bd (aj BinOp.add x7 (i64 1)) fun v21=>P142_3 x0 x6 v21 R st)))
 (bd (lun UnOp.not (LV.bool false)) fun v22=>ak v22 (R (LV.bool false) st) (bd (aj BinOp.add x7 (i64 1)) fun v23=>P142_3 x0 x6 v23 R st))))
 (bd (bg BinOp.neq x0 (LV.str [])) fun v24=>ak v24 (bd (bo x0) fun v25=>bd (aj BinOp.leq v25 (i64 20)) fun v26=>R v26 st) (R (LV.bool false) st))
theorem p142_3 (x0 x6 x7:LV) {R:LV.RT} {st:aa} (h:w142_3 x0 x6 x7 R st):P142_3 x0 x6 x7 R st:=
 pz Bv [] h
def P140_4 (x0 x5 x7 x8 x9 x10 x11:LV) (R:LV.RT) (st:aa):Prop:=LTg Tryz.prog (kindOf false) [.tmp 4] (aZ Tryz.f140 4) [] R (x0::(LV.jk 4 (x5::.aQ::x7::x8::x9::x10::x11::(LV.jk 85 [])))) st
def P140_13 (x0 x5 x7 x8 x9 x10 x11:LV) (R:LV.RT) (st:aa):Prop:=LTg Tryz.prog (kindOf false) [.tmp 4] (aZ Tryz.f140 13) [] R (x0::(LV.jk 4 (x5::.aQ::x7::x8::x9::x10::x11::(LV.jk 85 [])))) st
def P140_14 (x0 x5 x7 x8 x9 x10 x11 x79:LV) (R:LV.RT) (st:aa):Prop:=LTg Tryz.prog (kindOf false) [.tmp 4] (aZ Tryz.f140 14) [] R (x0::(LV.jk 4 (x5::.aQ::x7::x8::x9::x10::x11::(LV.jk 67 (x79::(LV.jk 17 [])))))) st
def wG:List Nat:=(LV.gx 1 96 [5,7,8,9,10,11])
def wH:List (Nat × List Nat):=[(9,(LV.gx 1 96 [5,7,8,9,10,11,79]))]
def w140 (a0 a1:LV) (R:LV.RT) (st:aa):Prop:=
 bd (bD a1) fun v0=>P140_4 a0 (i64 0) (LV.tup []) (LV.tup []) a1 v0 (i64 0) R st
theorem c140 (a0 a1:LV) {R:LV.RT} {st:aa} (h:w140 a0 a1 R st):LZ 140 [a0,a1] st R:=
 cz wG wH [.tmp 4] Tryz.func140 h
def w140_4 (x0 x5:LV) (_x7:LV) (_x8:LV) (x9:LV) (x10:LV) (x11:LV) (R:LV.RT) (st:aa):Prop:=
 bd (aj BinOp.lss x11 x10) fun v0=>ak v0
 (bd (bh 1 x9 x11) fun v1=>bd (ld1 st v1) fun v2=>bd (af x0) fun v3=>bd (ad 0 v3) fun v4=>bd (ad 0 v4) fun v5=>bd (ld1 st v5) fun v6=>bd (af x0) fun v7=>bd (ad 0 v7) fun v8=>bd (ad 1 v8) fun v9=>bd (ld1 st v9) fun v10=>bd (ob3 (some v10) none none fun l h m=>cq v6 l h m) fun v11=>LZ 186 [v11,v2] st fun v12 st13=>ak v12
 (bd (af x0) fun v14=>bd (ad 0 v14) fun v15=>bd (ad 1 v15) fun v16=>bd (ld1 st13 v16) fun v17=>bd (bo v2) fun v18=>bd (aj BinOp.add v17 v18) fun v19=>bd (af x0) fun v20=>bd (ad 0 v20) fun v21=>bd (ad 1 v21) fun v22=>bd2 (lmk (stV st13 1 v22 v19)) fun _v23 st24=>R x11 st24)
 (P140_13 x0 x5 v2 (i64 0) x9 x10 x11 R st13))
 (bd (af x0) fun v25=>bd (ad 0 v25) fun v26=>bd (af x0) fun v27=>bd (ad 0 v27) fun v28=>bd (ad 1 v28) fun v29=>bd (ld1 st v29) fun v30=>bd (aj BinOp.add v30 x5) fun v31=>LZ 76 [v26,v31,i64 4] st fun _v32 st33=>R (i64 0) st33)
theorem p140_4 (x0 x5 x7 x8 x9 x10 x11:LV) {R:LV.RT} {st:aa} (h:w140_4 x0 x5 x7 x8 x9 x10 x11 R st):P140_4 x0 x5 x7 x8 x9 x10 x11 R st:=
 pz wG wH h
def w140_13 (x0 x5 x7 x8 x9 x10 x11:LV) (R:LV.RT) (st:aa):Prop:=
 bd (bo x7) fun v0=>bd (aj BinOp.lss x8 v0) fun v1=>ak v1
 (bd (af x0) fun v2=>bd (ad 0 v2) fun v3=>bd (ad 1 v3) fun v4=>bd (ld1 st v4) fun v5=>bd (aj BinOp.add v5 x8) fun v6=>bd (af x0) fun v7=>bd (ad 0 v7) fun v8=>bd (ad 0 v8) fun v9=>bd (ld1 st v9) fun v10=>bd (bo v10) fun v11=>bd (aj BinOp.lss v6 v11) fun v12=>ak v12
 (bd (af x0) fun v13=>bd (ad 0 v13) fun v14=>bd (ad 0 v14) fun v15=>bd (ld1 st v15) fun v16=>bd (af x0) fun v17=>bd (ad 0 v17) fun v18=>bd (ad 1 v18) fun v19=>bd (ld1 st v19) fun v20=>bd (aj BinOp.add v20 x8) fun v21=>bd (cn v16 v21) fun v22=>bd (cn x7 x8) fun v23=>bd (aj BinOp.eql v22 v23) fun v24=>P140_14 x0 x5 x7 x8 x9 x10 x11 v24 R st)
 (P140_14 x0 x5 x7 x8 x9 x10 x11 (LV.bool false) R st))
 (P140_14 x0 x5 x7 x8 x9 x10 x11 (LV.bool false) R st)
theorem p140_13 (x0 x5 x7 x8 x9 x10 x11:LV) {R:LV.RT} {st:aa} (h:w140_13 x0 x5 x7 x8 x9 x10 x11 R st):P140_13 x0 x5 x7 x8 x9 x10 x11 R st:=
 pz wG wH h
def w140_14 (x0 x5 x7 x8 x9 x10 x11 x79:LV) (R:LV.RT) (st:aa):Prop:=
 ak x79 (bd (aj BinOp.add x8 (i64 1)) fun v0=>P140_13 x0 x5 x7 v0 x9 x10 x11 R st)
 (bd (oH [x5,x8]) fun v1=>bd (aj BinOp.add x11 (i64 1)) fun v2=>P140_4 x0 v1 x7 x8 x9 x10 v2 R st)
theorem p140_14 (x0 x5 x7 x8 x9 x10 x11 x79:LV) {R:LV.RT} {st:aa} (h:w140_14 x0 x5 x7 x8 x9 x10 x11 x79 R st):P140_14 x0 x5 x7 x8 x9 x10 x11 x79 R st:=
 pz wG wH h
def P225_3 (x0 x3:LV) (R:LV.RT) (st:aa):Prop:=LTg Tryz.prog (kindOf false) [.tmp 2] (aZ Tryz.f225 3) [] R (x0::.aQ::.aQ::x3::(LV.jk 95 [])) st
def P225_4 (x0 x3 x46:LV) (R:LV.RT) (st:aa):Prop:=LTg Tryz.prog (kindOf false) [.tmp 2] (aZ Tryz.f225 4) [] R (x0::.aQ::.aQ::x3::(LV.jk 42 (x46::(LV.jk 52 [])))) st
def yU:List Nat:=(LV.gx 1 98 [3])
def yV:List (Nat × List Nat):=[(2,(LV.gx 1 98 [3,46]))]
def w225 (a0:LV) (R:LV.RT) (st:aa):Prop:=
 bd (af a0) fun v0=>bd (ad 0 v0) fun v1=>bd (ad 1 v1) fun v2=>bd (ld1 st v2) fun v3=>P225_3 a0 v3 R st
theorem c225 (a0:LV) {R:LV.RT} {st:aa} (h:w225 a0 R st):LZ 225 [a0] st R:=
 cz yU yV [.tmp 2] Tryz.func225 h
def w225_3 (x0 x3:LV) (R:LV.RT) (st:aa):Prop:=
 bd (af x0) fun v0=>bd (ad 0 v0) fun v1=>bd (ad 1 v1) fun v2=>bd (ld1 st v2) fun v3=>bd (af x0) fun v4=>bd (ad 0 v4) fun v5=>bd (ad 0 v5) fun v6=>bd (ld1 st v6) fun v7=>bd (bo v7) fun v8=>bd (aj BinOp.lss v3 v8) fun v9=>ak v9
 (bd (af x0) fun v10=>bd (ad 0 v10) fun v11=>bd (ad 0 v11) fun v12=>bd (ld1 st v12) fun v13=>bd (aj BinOp.add x3 (i64 1)) fun v14=>bd (ob3 (some x3) (some v14) none fun l h m=>cq v13 l h m) fun v15=>LZ 142 [v15] st fun v16 st17=>ak v16
 (bd (af x0) fun v18=>bd (ad 0 v18) fun v19=>bd (ad 0 v19) fun v20=>bd (ld1 st17 v20) fun v21=>bd (af x0) fun v22=>bd (ad 0 v22) fun v23=>bd (ad 1 v23) fun v24=>bd (ld1 st17 v24) fun v25=>bd (cn v21 v25) fun v26=>LZ 262 [v26] st17 fun v27 st28=>P225_4 x0 x3 v27 R st28)
 (P225_4 x0 x3 (LV.bool false) R st17))
 (P225_4 x0 x3 (LV.bool false) R st)
theorem p225_3 (x0 x3:LV) {R:LV.RT} {st:aa} (h:w225_3 x0 x3 R st):P225_3 x0 x3 R st:=
 pz yU yV h
def w225_4 (x0 x3 x46:LV) (R:LV.RT) (st:aa):Prop:=
 ak x46
 (bd (af x0) fun v0=>bd (ad 0 v0) fun v1=>bd (ad 1 v1) fun v2=>bd (ld1 st v2) fun v3=>bd (aj BinOp.add v3 (i64 1)) fun v4=>bd (af x0) fun v5=>bd (ad 0 v5) fun v6=>bd (ad 1 v6) fun v7=>bd2 (lmk (stV st 1 v7 v4)) fun _v8 st9=>P225_3 x0 x3 R st9)
 (bd (af x0) fun v10=>bd (ad 0 v10) fun v11=>bd (ad 1 v11) fun v12=>bd (ld1 st v12) fun v13=>bd (aj BinOp.eql v13 x3) fun v14=>ak v14
 (bd (af x0) fun v15=>bd (ad 0 v15) fun v16=>bd (af x0) fun v17=>bd (ad 0 v17) fun v18=>bd (ad 1 v18) fun v19=>bd (ld1 st v19) fun v20=>LZ 76 [v16,v20,i64 4] st fun _v21 st22=>bd (af x0) fun v23=>bd (ad 0 v23) fun v24=>bd (ad 0 v24) fun v25=>bd (ld1 st22 v25) fun v26=>bd (af x0) fun v27=>bd (ad 0 v27) fun v28=>bd (ad 1 v28) fun v29=>bd (ld1 st22 v29) fun v30=>bd (ob3 (some x3) (some v30) none fun l h m=>cq v26 l h m) fun v31=>R v31 st22)
 (bd (af x0) fun v32=>bd (ad 0 v32) fun v33=>bd (ad 1 v33) fun v34=>bd (ld1 st v34) fun v35=>bd (aj BinOp.sub v35 x3) fun v36=>bd (aj BinOp.gtr v36 (i64 20)) fun v37=>ak v37
 (bd (af x0) fun v38=>bd (ad 0 v38) fun v39=>LZ 76 [v39,x3,i64 7] st fun _v40 st41=>bd (af x0) fun v42=>bd (ad 0 v42) fun v43=>bd (ad 0 v43) fun v44=>bd (ld1 st41 v44) fun v45=>bd (af x0) fun v46=>bd (ad 0 v46) fun v47=>bd (ad 1 v47) fun v48=>bd (ld1 st41 v48) fun v49=>bd (ob3 (some x3) (some v49) none fun l h m=>cq v45 l h m) fun v50=>R v50 st41)
 (bd (af x0) fun v51=>bd (ad 0 v51) fun v52=>bd (ad 0 v52) fun v53=>bd (ld1 st v53) fun v54=>bd (af x0) fun v55=>bd (ad 0 v55) fun v56=>bd (ad 1 v56) fun v57=>bd (ld1 st v57) fun v58=>bd (ob3 (some x3) (some v58) none fun l h m=>cq v54 l h m) fun v59=>R v59 st)))
theorem p225_4 (x0 x3 x46:LV) {R:LV.RT} {st:aa} (h:w225_4 x0 x3 x46 R st):P225_4 x0 x3 x46 R st:=
 pz yU yV h
def w136 (a0:LV) (R:LV.RT) (st:aa):Prop:=
 bd (ld1 st a0) fun v0=>bd (af v0) fun v1=>bd (ad 3 v1) fun v2=>bd (ld1 st v2) fun v3=>bd (aj BinOp.sub v3 (i64 1)) fun v4=>bd (af v0) fun v5=>bd (ad 3 v5) fun v6=>bd2 (lmk (stV st 1 v6 v4)) fun _v7 st8=>R (LV.tup []) st8
theorem c136 (a0:LV) {K:aa→Prop} {st:aa} (h:w136 a0 (fun _ s=>K s) st):cC Tryz.prog 136 [a0] st K:=
 cC.ofE (gl:=[]) (cuts:=[]) (rc:=[]) (n:=3000) dB Tryz.func136 (show Tryz.f136.body=some (dz Tryz.f136) by kernel_rfl) (show Tryz.f136.results.toList=[] by kernel_rfl) (by kernel_rfl) h
def w109 (R:LV.RT) (st:aa):Prop:=
 nw st [LV.str [],LV.str [],LV.str [],LV.str [],LV.str []] fun v0 st1=>bd
 (aN
 (av (fun i=>some (i*1,1)) [LV.str [],LV.str [],LV.str [],LV.str [],LV.str []]
 [(0,LV.str [97,110,121]),(1,LV.str [98,111,111,108]),(2,LV.str [105,110,116]),(3,LV.str [112,111,105,110,116]),(4,LV.str [116,101,120,116])]))
 fun v2=>bd2 (lmk (stV st1 5 v0 v2)) fun _v3 st4=>bd (ldA st4 v0 5) fun v5=>R v5 st4
theorem c109 {R:LV.RT} {st:aa} (h:w109  R st):LZ 109 [] st R:=
 cz [] [] [.cell 0 165] Tryz.func109 h
def w186 (a0 a1:LV) (R:LV.RT) (st:aa):Prop:=
 LZ 226 [a0,a1] st fun v0 st1=>R v0 st1
theorem c186 (a0 a1:LV) {R:LV.RT} {st:aa} (h:w186 a0 a1 R st):LZ 186 [a0,a1] st R:=
 cz [] [] [.tmp 4] Tryz.func186 h
def w226 (a0 a1:LV) (R:LV.RT) (st:aa):Prop:=
 bd (bo a0) fun v0=>bd (bo a1) fun v1=>bd (aj BinOp.geq v0 v1) fun v2=>ak v2 (bd (bo a1) fun v3=>bd (ob3 none (some v3) none fun l h m=>cq a0 l h m) fun v4=>bd (bg BinOp.eql v4 a1) fun v5=>R v5 st) (R (LV.bool false) st)
theorem c226 (a0 a1:LV) {R:LV.RT} {st:aa} (h:w226 a0 a1 R st):LZ 226 [a0,a1] st R:=
 cz [] [] [.tmp 4] Tryz.func226 h
def w53 (a0 a1:LV) (R:LV.RT) (st:aa):Prop:=
 bd2 (ej st a1) fun v0 st1=>bd (ldA st1 v0 1) fun v2=>LZ 118 [a0,v2] st1 fun v3 st4=>bd (ar v3 0) fun _v5=>bd (ar v3 1) fun v6=>bd (lun UnOp.not v6) fun v7=>R v7 st4
theorem c53 (a0 a1:LV) {R:LV.RT} {st:aa} (h:w53 a0 a1 R st):LZ 53 [a0,a1] st R:=
 cz [] [] [.tmp 4] Tryz.func53 h
def w167 (a0:LV) (R:LV.RT) (st:aa):Prop:=
 bd (eqB BinOp.eql (cV true a0 LV.nilp)) fun v0=>ak v0 (R (i64 0) st)
 (bd (af a0) fun v1=>bd (ad 0 v1) fun v2=>bd (ld1 st v2) fun v3=>bd (aj BinOp.lss v3 (i64 5)) fun v4=>ak v4 (R (i64 0) st)
 (bd (af a0) fun v5=>bd (ad 0 v5) fun v6=>bd (ld1 st v6) fun v7=>bd (aj BinOp.eql v7 (i64 6)) fun v8=>ak v8 (R (i64 7) st)
 (bd (af a0) fun v9=>bd (ad 0 v9) fun v10=>bd (ld1 st v10) fun v11=>bd (aj BinOp.eql v11 (i64 8)) fun v12=>ak v12 (R (i64 7) st) (R (i64 6) st))))
theorem c167 (a0:LV) {R:LV.RT} {st:aa} (h:w167 a0 R st):LZ 167 [a0] st R:=
 cz [] [] [.tmp 2] Tryz.func167 h
def w213 (a0 a1:LV) (R:LV.RT) (st:aa):Prop:=
 bd (eqB BinOp.eql (cV true a0 LV.nilp)) fun v0=>ak v0 (R (LV.tup [LV.nilp,LV.bool false]) st)
 (bd (af a0) fun v1=>bd (ad 2 v1) fun v2=>bd (ld1 st v2) fun v3=>LZ 158 [v3,a1] st fun v4 st5=>bd (aj BinOp.lss v4 (i64 0)) fun v6=>ak v6 (R (LV.tup [LV.nilp,LV.bool false]) st5)
 (bd (af a0) fun v7=>bd (ad 1 v7) fun v8=>bd (ld1 st5 v8) fun v9=>bd (bh 1 v9 v4) fun v10=>bd (ld1 st5 v10) fun v11=>R (LV.tup [v11,LV.bool true]) st5))
theorem c213 (a0 a1:LV) {R:LV.RT} {st:aa} (h:w213 a0 a1 R st):LZ 213 [a0,a1] st R:=
 cz [] [] [.tmp 4,.tmp 5] Tryz.func213 h
def P74_14 (x1 x4 d0:LV) (R:LV.RT) (st:aa):Prop:=LTg Tryz.prog (kindOf false) [.tmp 2] (aZ Tryz.f74 14) [(136,[d0])] R (.aQ::x1::.aQ::.aQ::x4::(LV.jk 54 [])) st
def CV:List (Nat × List Nat):=[(13,(LV.gx 0 59 [1,4]))]
def w74 (a0:LV) (R:LV.RT) (st:aa):Prop:=
 bd2 (ej st a0) fun v0 st1=>bd (ld1 st1 v0) fun v2=>bd (af v2) fun v3=>bd (ad 0 v3) fun v4=>LZ 75 [v4] st1 fun v5 st6=>ak v5 (R LV.nilp st6)
 (bd (ld1 st6 v0) fun v7=>bd (af v7) fun v8=>bd (ad 3 v8) fun v9=>bd (ld1 st6 v9) fun v10=>bd (aj BinOp.eql v10 (i64 8)) fun v11=>ak v11
 (bd (ld1 st6 v0) fun v12=>bd (af v12) fun v13=>bd (ad 0 v13) fun v14=>bd (ld1 st6 v0) fun v15=>bd (af v15) fun v16=>bd (ad 0 v16) fun v17=>bd (ad 1 v17) fun v18=>bd (ld1 st6 v18) fun v19=>LZ 76 [v14,v19,i64 3] st6 fun _v20 st21=>R LV.nilp st21)
 (bd (ld1 st6 v0) fun v22=>bd (af v22) fun v23=>bd (ad 3 v23) fun v24=>bd (ld1 st6 v24) fun v25=>bd (aj BinOp.add v25 (i64 1)) fun v26=>bd (af v22) fun v27=>bd (ad 3 v27) fun v28=>bd2 (lmk (stV st6 1 v28 v26)) fun _v29 st30=>bd (ld1 st30 v0) fun v31=>bd (af v31) fun v32=>bd (ad 0 v32) fun v33=>LZ 137 [v33,LV.int IntKind.u8 91] st30 fun v34 st35=>ak v34 (bd (ld1 st35 v0) fun v36=>LZ 138 [v36] st35 fun v37 st38=>cC Tryz.prog 136 [v0] st38 fun st39=>R v37 st39)
 (bd (ld1 st35 v0) fun v40=>bd (af v40) fun v41=>bd (ad 0 v41) fun v42=>LZ 137 [v42,LV.int IntKind.u8 123] st35 fun v43 st44=>ak v43 (bd (ld1 st44 v0) fun v45=>LZ 139 [v45] st44 fun v46 st47=>cC Tryz.prog 136 [v0] st47 fun st48=>R v46 st48)
 (LZ 109 [] st44 fun v49 st50=>nw st50 [LV.str [],LV.str [],LV.str [],LV.str [],LV.str []] fun v51 st52=>bd2 (lmk (stV st52 5 v51 v49)) fun _v53 st54=>bd (ld1 st54 v0) fun v55=>bd (ob3 none none none fun l h m=>we 5 1 v51 l h m) fun v56=>bd2
 (bJ st54 2
 (av (fun i=>some (i*1,1)) (List.replicate 2 [LV.str []]).flatten
 [(0,LV.str [108,105,115,116]),(1,LV.str [109,97,112])]))
 fun v57 st58=>ld1 st58 v0=some v55∧
 bd2 (aP st58 1 16 Md.rw v56 v57) fun v59 st60=>ld1 st60 v0=some v55∧LZ 140 [v55,v59] st60 fun v61 st62=>@P74_14 v0 v61 v0 R st62))))
theorem c74 (a0:LV) {R:LV.RT} {st:aa} (h:w74 a0 R st):LZ 74 [a0] st R:=
 cz [] CV [.tmp 2] Tryz.func74 h
def w74_14 (x1 x4:LV) (d0:LV) (R:LV.RT) (st:aa):Prop:=
 bd (aj BinOp.lss x4 (i64 5)) fun v0=>ak v0
 (bd (aN (av (ax [(0,1),(1,1),(2,1),(3,1)]) [i64 0,LV.nils,LV.nils,LV.nils] [(0,x4)])) fun v1=>bd2 (ej st v1) fun v2 st3=>cC Tryz.prog 136 [d0] st3 fun st4=>R v2 st4)
 (bd (ld1 st x1) fun v5=>LZ 141 [v5,x4] st fun v6 st7=>cC Tryz.prog 136 [d0] st7 fun st8=>R v6 st8)
theorem p74_14 (x1 x4 d0:LV) {R:LV.RT} {st:aa} (h:w74_14 x1 x4 d0 R st):P74_14 x1 x4 d0 R st:=
 pz [] CV h
def w18 (a0:LV) (R:LV.RT) (st:aa):Prop:=
 bd (bo a0) fun v0=>bd (aj BinOp.gtr v0 (i64 4096)) fun v1=>ak v1 (R (LV.tup [LV.nilp,i64 0,i64 3]) st)
 (bd (aN (av (ax [(0,1),(1,1),(2,1)]) [LV.str [],i64 0,i64 0] [(0,a0)])) fun v2=>bd (aN (av (ax [(0,3),(3,1)]) [LV.str [],i64 0,i64 0,i64 0] [(0,v2)])) fun v3=>bd2 (ej st v3) fun v4 st5=>LZ 74 [v4] st5 fun v6 st7=>bd (af v4) fun v8=>bd (ad 0 v8) fun v9=>LZ 75 [v9] st7 fun v10 st11=>bd (lun UnOp.not v10) fun v12=>ak v12
 (bd (af v4) fun v13=>bd (ad 0 v13) fun v14=>bd (ad 1 v14) fun v15=>bd (ld1 st11 v15) fun v16=>bd (bo a0) fun v17=>bd (aj BinOp.lss v16 v17) fun v18=>ak v18
 (bd (af v4) fun v19=>bd (ad 0 v19) fun v20=>bd (af v4) fun v21=>bd (ad 0 v21) fun v22=>bd (ad 1 v22) fun v23=>bd (ld1 st11 v23) fun v24=>LZ 76 [v20,v24,i64 4] st11 fun _v25 st26=>bd (af v4) fun v27=>bd (ad 0 v27) fun v28=>LZ 75 [v28] st26 fun v29 st30=>ak v29
 (bd (af v4) fun v31=>bd (ad 0 v31) fun v32=>bd (ad 1 v32) fun v33=>bd (ld1 st30 v33) fun v34=>bd (af v4) fun v35=>bd (ad 0 v35) fun v36=>bd (ad 2 v36) fun v37=>bd (ld1 st30 v37) fun v38=>R (LV.tup [LV.nilp,v34,v38]) st30)
 (R (LV.tup [v6,i64 0,i64 0]) st30))
 (bd (af v4) fun v39=>bd (ad 0 v39) fun v40=>LZ 75 [v40] st11 fun v41 st42=>ak v41
 (bd (af v4) fun v43=>bd (ad 0 v43) fun v44=>bd (ad 1 v44) fun v45=>bd (ld1 st42 v45) fun v46=>bd (af v4) fun v47=>bd (ad 0 v47) fun v48=>bd (ad 2 v48) fun v49=>bd (ld1 st42 v49) fun v50=>R (LV.tup [LV.nilp,v46,v50]) st42)
 (R (LV.tup [v6,i64 0,i64 0]) st42)))
 (bd (af v4) fun v51=>bd (ad 0 v51) fun v52=>LZ 75 [v52] st11 fun v53 st54=>ak v53
 (bd (af v4) fun v55=>bd (ad 0 v55) fun v56=>bd (ad 1 v56) fun v57=>bd (ld1 st54 v57) fun v58=>bd (af v4) fun v59=>bd (ad 0 v59) fun v60=>bd (ad 2 v60) fun v61=>bd (ld1 st54 v61) fun v62=>R (LV.tup [LV.nilp,v58,v62]) st54)
 (R (LV.tup [v6,i64 0,i64 0]) st54)))
theorem c18 (a0:LV) {R:LV.RT} {st:aa} (h:w18 a0 R st):LZ 18 [a0] st R:=
 cz [] [] [.tmp 2,.tmp 3,.tmp 4] Tryz.func18 h
def P138_5 (x0 x3:LV) (R:LV.RT) (st:aa):Prop:=LTg Tryz.prog (kindOf false) [.tmp 2] (aZ Tryz.f138 5) [] R (x0::.aQ::.aQ::x3::(LV.jk 47 [])) st
def P138_10 (x0 x3:LV) (R:LV.RT) (st:aa):Prop:=LTg Tryz.prog (kindOf false) [.tmp 2] (aZ Tryz.f138 10) [] R (x0::.aQ::.aQ::x3::(LV.jk 47 [])) st
def yW:List Nat:=(LV.gx 1 50 [3])
def yX:List (Nat × List Nat):=[(7,(LV.gx 1 50 [3]))]
def w138 (a0:LV) (R:LV.RT) (st:aa):Prop:=
 bd (aN (av (ax [(0,1),(1,1),(2,1),(3,1)]) [i64 0,LV.nils,LV.nils,LV.nils] [(0,i64 7)])) fun v0=>bd2 (ej st v0) fun v1 st2=>bd (af a0) fun v3=>bd (ad 0 v3) fun v4=>LZ 137 [v4,LV.int IntKind.u8 93] st2 fun v5 st6=>ak v5 (R v1 st6) (P138_5 a0 v1 R st6)
theorem c138 (a0:LV) {R:LV.RT} {st:aa} (h:w138 a0 R st):LZ 138 [a0] st R:=
 cz yW yX [.tmp 2] Tryz.func138 h
def w138_5 (x0 x3:LV) (R:LV.RT) (st:aa):Prop:=
 bd (af x0) fun v0=>bd (ad 0 v0) fun v1=>LZ 75 [v1] st fun v2 st3=>bd (lun UnOp.not v2) fun v4=>ak v4
 (bd (af x3) fun v5=>bd (ad 1 v5) fun v6=>bd (ld1 st3 v6) fun v7=>bd (bD v7) fun v8=>bd (aj BinOp.eql v8 (i64 16)) fun v9=>ak v9
 (bd (af x0) fun v10=>bd (ad 0 v10) fun v11=>bd (af x0) fun v12=>bd (ad 0 v12) fun v13=>bd (ad 1 v13) fun v14=>bd (ld1 st3 v14) fun v15=>LZ 76 [v11,v15,i64 3] st3 fun _v16 st17=>bd (af x3) fun v18=>bd (ad 1 v18) fun v19=>bd (ld1 st17 v19) fun v20=>LZ 74 [x0] st17 fun v21 st22=>ld1 st22 v19=some v20∧
 bd2 (bJ st22 1 (av (fun i=>some (i*1,1)) (List.replicate 1 [LV.nilp]).flatten [(0,v21)])) fun v23 st24=>ld1 st24 v19=some v20∧
 bd2 (aP st24 1 8 Md.rw v20 v23) fun v25 st26=>bd (af x3) fun v27=>bd (ad 1 v27) fun v28=>bd2 (lmk (stV st26 1 v28 v25)) fun _v29 st30=>P138_10 x0 x3 R st30)
 (bd (af x3) fun v31=>bd (ad 1 v31) fun v32=>bd (ld1 st3 v32) fun v33=>LZ 74 [x0] st3 fun v34 st35=>ld1 st35 v32=some v33∧
 bd2 (bJ st35 1 (av (fun i=>some (i*1,1)) (List.replicate 1 [LV.nilp]).flatten [(0,v34)])) fun v36 st37=>ld1 st37 v32=some v33∧
 bd2 (aP st37 1 8 Md.rw v33 v36) fun v38 st39=>bd (af x3) fun v40=>bd (ad 1 v40) fun v41=>bd2 (lmk (stV st39 1 v41 v38)) fun _v42 st43=>P138_10 x0 x3 R st43))
 (R x3 st3)
theorem p138_5 (x0 x3:LV) {R:LV.RT} {st:aa} (h:w138_5 x0 x3 R st):P138_5 x0 x3 R st:=
 pz yW yX h
def w138_10 (x0 x3:LV) (R:LV.RT) (st:aa):Prop:=
 bd (af x0) fun v0=>bd (ad 0 v0) fun v1=>LZ 137 [v1,LV.int IntKind.u8 93] st fun v2 st3=>ak v2 (R x3 st3) (bd (af x0) fun v4=>bd (ad 0 v4) fun v5=>LZ 184 [v5,LV.int IntKind.u8 44] st3 fun _v6 st7=>P138_5 x0 x3 R st7)
theorem p138_10 (x0 x3:LV) {R:LV.RT} {st:aa} (h:w138_10 x0 x3 R st):P138_10 x0 x3 R st:=
 pz yW yX h
def P139_5 (x0 x3:LV) (R:LV.RT) (st:aa):Prop:=LTg Tryz.prog (kindOf false) [.tmp 2] (aZ Tryz.f139 5) [] R (x0::.aQ::.aQ::x3::(LV.jk 24 [])) st
def Bx:List Nat:=(LV.gx 1 27 [3])
def w139 (a0:LV) (R:LV.RT) (st:aa):Prop:=
 bd (aN (av (ax [(0,1),(1,1),(2,1),(3,1)]) [i64 0,LV.nils,LV.nils,LV.nils] [(0,i64 8)])) fun v0=>bd2 (ej st v0) fun v1 st2=>bd (af a0) fun v3=>bd (ad 0 v3) fun v4=>LZ 137 [v4,LV.int IntKind.u8 125] st2 fun v5 st6=>ak v5 (R v1 st6) (P139_5 a0 v1 R st6)
theorem c139 (a0:LV) {R:LV.RT} {st:aa} (h:w139 a0 R st):LZ 139 [a0] st R:=
 cz Bx [] [.tmp 2] Tryz.func139 h
def w139_5 (x0 x3:LV) (R:LV.RT) (st:aa):Prop:=
 bd (af x0) fun v0=>bd (ad 0 v0) fun v1=>LZ 75 [v1] st fun v2 st3=>bd (lun UnOp.not v2) fun v4=>ak v4
 (LZ 185 [x0,x3] st3 fun _v5 st6=>bd (af x0) fun v7=>bd (ad 0 v7) fun v8=>LZ 137 [v8,LV.int IntKind.u8 125] st6 fun v9 st10=>ak v9 (R x3 st10) (bd (af x0) fun v11=>bd (ad 0 v11) fun v12=>LZ 184 [v12,LV.int IntKind.u8 44] st10 fun _v13 st14=>P139_5 x0 x3 R st14))
 (R x3 st3)
theorem p139_5 (x0 x3:LV) {R:LV.RT} {st:aa} (h:w139_5 x0 x3 R st):P139_5 x0 x3 R st:=
 pz Bx [] h
def w141 (a0 a1:LV) (R:LV.RT) (st:aa):Prop:=
 bd (af a0) fun v0=>bd (ad 0 v0) fun v1=>LZ 184 [v1,LV.int IntKind.u8 40] st fun _v2 st3=>LZ 74 [a0] st3 fun v4 st5=>bd (af a0) fun v6=>bd (ad 0 v6) fun v7=>LZ 184 [v7,LV.int IntKind.u8 41] st5 fun _v8 st9=>bd2 (bJ st9 1 (av (fun i=>some (i*1,1)) (List.replicate 1 [LV.nilp]).flatten [(0,v4)])) fun v10 st11=>bd (aN (av (ax [(0,1),(1,1),(2,1),(3,1)]) [i64 0,LV.nils,LV.nils,LV.nils] [(0,a1),(1,v10)])) fun v12=>bd2 (ej st11 v12) fun v13 st14=>R v13 st14
theorem c141 (a0 a1:LV) {R:LV.RT} {st:aa} (h:w141 a0 a1 R st):LZ 141 [a0,a1] st R:=
 cz [] [] [.tmp 4] Tryz.func141 h
def P185_2 (x0 x1 x4:LV) (R:LV.RT) (st:aa):Prop:=LTg Tryz.prog (kindOf false) [] (aZ Tryz.f185 2) [] R (x0::x1::.aQ::.aQ::x4::(LV.jk 102 [])) st
def P185_8 (x0 x1 x4 x5 x7:LV) (R:LV.RT) (st:aa):Prop:=LTg Tryz.prog (kindOf false) [] (aZ Tryz.f185 8) [] R (x0::x1::.aQ::.aQ::x4::x5::.aQ::x7::(LV.jk 99 [])) st
def P185_9 (x0 x1 x5:LV) (R:LV.RT) (st:aa):Prop:=LTg Tryz.prog (kindOf false) [] (aZ Tryz.f185 9) [] R (x0::x1::(LV.jk 3 (x5::(LV.jk 101 [])))) st
def P185_10 (x0 x1 x5 x8:LV) (R:LV.RT) (st:aa):Prop:=LTg Tryz.prog (kindOf false) [] (aZ Tryz.f185 10) [] R (x0::x1::(LV.jk 3 (x5::.aQ::.aQ::x8::(LV.jk 98 [])))) st
def P185_11 (x0 x1 x5 x8:LV) (R:LV.RT) (st:aa):Prop:=LTg Tryz.prog (kindOf false) [] (aZ Tryz.f185 11) [] R (x0::x1::(LV.jk 3 (x5::.aQ::.aQ::x8::(LV.jk 98 [])))) st
def P185_12 (x0 x1:LV) (R:LV.RT) (st:aa):Prop:=LTg Tryz.prog (kindOf false) [] (aZ Tryz.f185 12) [] R (x0::x1::(LV.jk 105 [])) st
def pF:List (Nat × List Nat):=[(2,(LV.gx 2 105 [4])),(8,(LV.gx 2 105 [4,5,7])),(9,(LV.gx 2 105 [5])),(10,(LV.gx 2 105 [5,8])),(11,(LV.gx 2 105 [5,8])),(12,(LV.gx 2 105 []))]
def w185 (a0 a1:LV) (R:LV.RT) (st:aa):Prop:=
 bd (af a0) fun v0=>bd (ad 0 v0) fun v1=>bd (ad 1 v1) fun v2=>bd (ld1 st v2) fun v3=>bd (af a1) fun v4=>bd (ad 1 v4) fun v5=>bd (ld1 st v5) fun v6=>bd (bD v6) fun v7=>bd (aj BinOp.eql v7 (i64 16)) fun v8=>ak v8 (bd (af a0) fun v9=>bd (ad 0 v9) fun v10=>LZ 76 [v10,v3,i64 3] st fun _v11 st12=>P185_2 a0 a1 v3 R st12)
 (LZ 225 [a0] st fun v13 st14=>bd (af a1) fun v15=>bd (ad 2 v15) fun v16=>bd (ld1 st14 v16) fun v17=>bd (bD v17) fun v18=>bd (aj BinOp.sub v18 (i64 1)) fun v19=>bd (af a0) fun v20=>bd (ad 0 v20) fun v21=>LZ 75 [v21] st14 fun v22 st23=>bd (lun UnOp.not v22) fun v24=>ak v24
 (bd (aj BinOp.geq v19 (i64 0)) fun v25=>ak v25
 (bd (af a1) fun v26=>bd (ad 2 v26) fun v27=>bd (ld1 st23 v27) fun v28=>bd (bh 1 v28 v19) fun v29=>bd (ld1 st23 v29) fun v30=>bd (bg BinOp.leq v13 v30) fun v31=>ak v31
 (bd (af a1) fun v32=>bd (ad 2 v32) fun v33=>bd (ld1 st23 v33) fun v34=>bd (bh 1 v34 v19) fun v35=>bd (ld1 st23 v35) fun v36=>bd (bg BinOp.eql v13 v36) fun v37=>ak v37 (P185_8 a0 a1 v3 v13 (i64 9) R st23)
 (bd (af a0) fun v38=>bd (ad 0 v38) fun v39=>LZ 76 [v39,v3,i64 4] st23 fun _v40 st41=>P185_9 a0 a1 v13 R st41))
 (bd (af a0) fun v42=>bd (ad 0 v42) fun v43=>LZ 137 [v43,LV.int IntKind.u8 63] st23 fun v44 st45=>P185_10 a0 a1 v13 v44 R st45))
 (bd (af a0) fun v46=>bd (ad 0 v46) fun v47=>LZ 137 [v47,LV.int IntKind.u8 63] st23 fun v48 st49=>P185_10 a0 a1 v13 v48 R st49))
 (bd (af a0) fun v50=>bd (ad 0 v50) fun v51=>LZ 137 [v51,LV.int IntKind.u8 63] st23 fun v52 st53=>P185_10 a0 a1 v13 v52 R st53))
theorem c185 (a0 a1:LV) {R:LV.RT} {st:aa} (h:w185 a0 a1 R st):LZ 185 [a0,a1] st R:=
 cz [] pF [] Tryz.func185 h
def w185_2 (x0 x1 x4:LV) (R:LV.RT) (st:aa):Prop:=
 LZ 225 [x0] st fun v0 st1=>bd (af x1) fun v2=>bd (ad 2 v2) fun v3=>bd (ld1 st1 v3) fun v4=>bd (bD v4) fun v5=>bd (aj BinOp.sub v5 (i64 1)) fun v6=>bd (af x0) fun v7=>bd (ad 0 v7) fun v8=>LZ 75 [v8] st1 fun v9 st10=>bd (lun UnOp.not v9) fun v11=>ak v11
 (bd (aj BinOp.geq v6 (i64 0)) fun v12=>ak v12
 (bd (af x1) fun v13=>bd (ad 2 v13) fun v14=>bd (ld1 st10 v14) fun v15=>bd (bh 1 v15 v6) fun v16=>bd (ld1 st10 v16) fun v17=>bd (bg BinOp.leq v0 v17) fun v18=>ak v18
 (bd (af x1) fun v19=>bd (ad 2 v19) fun v20=>bd (ld1 st10 v20) fun v21=>bd (bh 1 v21 v6) fun v22=>bd (ld1 st10 v22) fun v23=>bd (bg BinOp.eql v0 v23) fun v24=>ak v24 (P185_8 x0 x1 x4 v0 (i64 9) R st10)
 (bd (af x0) fun v25=>bd (ad 0 v25) fun v26=>LZ 76 [v26,x4,i64 4] st10 fun _v27 st28=>P185_9 x0 x1 v0 R st28))
 (bd (af x0) fun v29=>bd (ad 0 v29) fun v30=>LZ 137 [v30,LV.int IntKind.u8 63] st10 fun v31 st32=>P185_10 x0 x1 v0 v31 R st32))
 (bd (af x0) fun v33=>bd (ad 0 v33) fun v34=>LZ 137 [v34,LV.int IntKind.u8 63] st10 fun v35 st36=>P185_10 x0 x1 v0 v35 R st36))
 (bd (af x0) fun v37=>bd (ad 0 v37) fun v38=>LZ 137 [v38,LV.int IntKind.u8 63] st10 fun v39 st40=>P185_10 x0 x1 v0 v39 R st40)
theorem p185_2 (x0 x1 x4:LV) {R:LV.RT} {st:aa} (h:w185_2 x0 x1 x4 R st):P185_2 x0 x1 x4 R st:=
 pz [] pF h
def w185_8 (x0 x1 x4 x5 x7:LV) (R:LV.RT) (st:aa):Prop:=
 bd (af x0) fun v0=>bd (ad 0 v0) fun v1=>LZ 76 [v1,x4,x7] st fun _v2 st3=>P185_9 x0 x1 x5 R st3
theorem p185_8 (x0 x1 x4 x5 x7:LV) {R:LV.RT} {st:aa} (h:w185_8 x0 x1 x4 x5 x7 R st):P185_8 x0 x1 x4 x5 x7 R st:=
 pz [] pF h
def w185_9 (x0 x1 x5:LV) (R:LV.RT) (st:aa):Prop:=
 bd (af x0) fun v0=>bd (ad 0 v0) fun v1=>LZ 137 [v1,LV.int IntKind.u8 63] st fun v2 st3=>P185_10 x0 x1 x5 v2 R st3
theorem p185_9 (x0 x1 x5:LV) {R:LV.RT} {st:aa} (h:w185_9 x0 x1 x5 R st):P185_9 x0 x1 x5 R st:=
 pz [] pF h
def w185_10 (x0 x1 x5 x8:LV) (R:LV.RT) (st:aa):Prop:=
 bd (af x0) fun v0=>bd (ad 0 v0) fun v1=>LZ 184 [v1,LV.int IntKind.u8 58] st fun _v2 st3=>P185_11 x0 x1 x5 x8 R st3
theorem p185_10 (x0 x1 x5 x8:LV) {R:LV.RT} {st:aa} (h:w185_10 x0 x1 x5 x8 R st):P185_10 x0 x1 x5 x8 R st:=
 pz [] pF h
def w185_11 (x0 x1 x5 x8:LV) (R:LV.RT) (st:aa):Prop:=
 bd (af x1) fun v0=>bd (ad 2 v0) fun v1=>bd (ld1 st v1) fun v2=>bd (af x1) fun v3=>bd (ad 3 v3) fun v4=>bd (ld1 st v4) fun v5=>(bd2 (bJ st 1 (av (fun i=>some (i*1,1)) (List.replicate 1 [LV.bool false]).flatten [(0,x8)])) fun v6 st7=>ld1 st7 v4=some v5∧
 ld1 st7 v1=some v2∧
 bd2 (bJ st7 1 (av (fun i=>some (i*1,1)) (List.replicate 1 [LV.str []]).flatten [(0,x5)])) fun v8 st9=>ld1 st9 v4=some v5∧
 ld1 st9 v1=some v2∧
 bd2 (aP st9 1 16 Md.rw v2 v8) fun v10 st11=>ld1 st11 v4=some v5∧
 bd2 (aP st11 1 1 Md.rw v5 v6) fun v12 st13=>bd (af x1) fun v14=>bd (ad 2 v14) fun v15=>bd2 (lmk (stV st13 1 v15 v10)) fun _v16 st17=>bd (af x1) fun v18=>bd (ad 3 v18) fun v19=>bd2 (lmk (stV st17 1 v19 v12)) fun _v20 st21=>P185_12 x0 x1 R st21)∧
 bd2 (bJ st 1 (av (fun i=>some (i*1,1)) (List.replicate 1 [LV.str []]).flatten [(0,x5)])) fun v22 st23=>ld1 st23 v4=some v5∧
 ld1 st23 v1=some v2∧
 (bd2 (bJ st23 1 (av (fun i=>some (i*1,1)) (List.replicate 1 [LV.bool false]).flatten [(0,x8)])) fun v24 st25=>ld1 st25 v4=some v5∧
 ld1 st25 v1=some v2∧
 bd2 (aP st25 1 16 Md.rw v2 v22) fun v26 st27=>ld1 st27 v4=some v5∧
 bd2 (aP st27 1 1 Md.rw v5 v24) fun v28 st29=>bd (af x1) fun v30=>bd (ad 2 v30) fun v31=>bd2 (lmk (stV st29 1 v31 v26)) fun _v32 st33=>bd (af x1) fun v34=>bd (ad 3 v34) fun v35=>bd2 (lmk (stV st33 1 v35 v28)) fun _v36 st37=>P185_12 x0 x1 R st37)∧
 bd2 (aP st23 1 16 Md.rw v2 v22) fun v38 st39=>ld1 st39 v4=some v5∧
 bd2 (bJ st39 1 (av (fun i=>some (i*1,1)) (List.replicate 1 [LV.bool false]).flatten [(0,x8)])) fun v40 st41=>ld1 st41 v4=some v5∧
 ld1 st41 v1=some v2∧
 bd2 (aP st41 1 1 Md.rw v5 v40) fun v42 st43=>bd (af x1) fun v44=>bd (ad 2 v44) fun v45=>bd2 (lmk (stV st43 1 v45 v38)) fun _v46 st47=>bd (af x1) fun v48=>bd (ad 3 v48) fun v49=>bd2 (lmk (stV st47 1 v49 v42)) fun _v50 st51=>P185_12 x0 x1 R st51
theorem p185_11 (x0 x1 x5 x8:LV) {R:LV.RT} {st:aa} (h:w185_11 x0 x1 x5 x8 R st):P185_11 x0 x1 x5 x8 R st:=
 pz [] pF h
def w185_12 (x0 x1:LV) (R:LV.RT) (st:aa):Prop:=
 bd (af x1) fun v0=>bd (ad 1 v0) fun v1=>bd (ld1 st v1) fun v2=>LZ 74 [x0] st fun v3 st4=>ld1 st4 v1=some v2∧
 bd2 (bJ st4 1 (av (fun i=>some (i*1,1)) (List.replicate 1 [LV.nilp]).flatten [(0,v3)])) fun v5 st6=>ld1 st6 v1=some v2∧
 bd2 (aP st6 1 8 Md.rw v2 v5) fun v7 st8=>bd (af x1) fun v9=>bd (ad 1 v9) fun v10=>bd2 (lmk (stV st8 1 v10 v7)) fun _v11 st12=>R (LV.tup []) st12
theorem p185_12 (x0 x1:LV) {R:LV.RT} {st:aa} (h:w185_12 x0 x1 R st):P185_12 x0 x1 R st:=
 pz [] pF h
end Go.Proofs.YtknegckgmklnhaaGreatDoor
