/- Parts of the proof. -/
import Derived.Test.YtknegckgmklnhaaGreatDoorVbW
namespace Go.Proofs.YtknegckgmklnhaaGreatDoor
open Go Go.CP
set_option maxRecDepth 100000
def NB (a0 a1:LV) (R:LV.RT) (st:aa):Prop:=
 bd2 (b8 st a1) fun v0 gT=>nw gT [i64 0,LV.str []] fun v2 gE=>bd (ldA gE v0 1) fun v4=>LZ 43 [a0,v4] gE fun v5 iD=>bd (ai v5 0) fun v7=>bd (ai v5 1) fun v8=>bd (aL (ao (ay [(0,1),(1,1)]) [i64 0,LV.str []] [(0,i64 1),(1,v7)])) fun v9=>bd (ak BinOp.eql v8 (i64 0)) fun iF=>bd2 (lmk (stV iD 2 v2 v9)) fun _ eQ=>bd (ldA eQ v2 2) fun iN=>R (LV.tup [iN,iF]) eQ
theorem c124 (a0 a1:LV) {R:LV.RT} {st:aa} (h:NB a0 a1 R st):LZ 124 [a0,a1] st R:=
 cz [] [] [.cell 4 92,.tmp 5] Tryz.func124 h
def NC (a0 a1 a2:LV) (R:LV.RT) (st:aa):Prop:=
 bd2 (b8 st a0) fun v0 aT=>bd2 (b8 aT a1) fun v2 bY=>bd2 (b8 bY a2) fun v4 nE=>bd (ldA nE v2 1) fun v6=>LZ 46 [v6] nE fun v7 gT=>bd (ak BinOp.neq v7 (i64 7)) fun v9=>al v9 (R (LV.bool false) gT)
 (bd (ldA gT v2 1) fun c7=>bd (ad 0 v0) fun dO=>bd (ld1 gT dO) fun lE=>LZ 50 [c7,lE] gT fun oF iD=>bd (ai oF 0) fun lT=>bd (ai oF 1) fun _=>nw iD [LV.nili] fun oR iF=>bd2 (lmk (stV iF 1 oR lT)) fun _ eQ=>bd (ldA eQ v4 1) fun p7=>bd (ad 0 v0) fun p8=>bd (ld1 eQ p8) fun p9=>LZ 50 [p7,p9] eQ fun rW iN=>bd (ai rW 0) fun tO=>bd (ai rW 1) fun _=>nw iN [LV.nili] fun aS iS=>bd2 (lmk (stV iS 1 aS tO)) fun _ gE=>bd (ldA gE oR 1) fun v32=>bd (ldA gE aS 1) fun v33=>LZ 48 [v32,v33] gE fun v34 mK=>bd (lun UnOp.not v34) fun v36=>R v36 mK)
theorem OT (a0 a1 a2:LV) {R:LV.RT} {st:aa} (h:NC a0 a1 a2 R st):LZ 128 [a0,a1,a2] st R:=
 cz [] [] [.tmp 6] Tryz.func128 h
def Cw (x4 x5 x6 x25 x26 x27:LV) (R:LV.RT) (st:aa):Prop:=LTg Tryz.prog (kindOf false) [.cell 6 92] (bg Tryz.f58 6) [] R (LV.jk 4 (x4::x5::x6::(LV.jk 18 (x25::x26::x27::(LV.jk 34 []))))) st
def ND:List Nat:=(LV.gx 0 62 [4,5,6,25,26,27])
def w58 (a0 a1 a2:LV) (R:LV.RT) (st:aa):Prop:=
 bd2 (b8 st a1) fun v0 mK=>bd2 (b8 mK a2) fun v2 nE=>nw nE [i64 0,LV.str []] fun v4 iF=>bd (ldA iF v2 1) fun v6=>LZ 124 [a0,v6] iF fun v7 oF=>bd (ai v7 0) fun v9=>bd (ai v7 1) fun oR=>nw oF [i64 0,LV.str []] fun iN gT=>bd2 (lmk (stV gT 2 iN v9)) fun _ eQ=>bd (lun UnOp.not oR) fun rW=>al rW (bd (ldA eQ iN 2) fun aS=>bd2 (lmk (stV eQ 2 v4 aS)) fun _ gE=>bd (ldA gE v4 2) fun aT=>R aT gE)
 (LZ 36 [a0] eQ fun iS iD=>bd (bo iS) fun bY=>Cw v0 v2 v4 iS bY (i64 0) R iD)
theorem c58 (a0 a1 a2:LV) {R:LV.RT} {st:aa} (h:w58 a0 a1 a2 R st):LZ 58 [a0,a1,a2] st R:=
 cz ND [] [.cell 6 92] Tryz.func58 h
def FP (x4 x5 x6 x25 x26 x27:LV) (R:LV.RT) (st:aa):Prop:=
 bd (ak BinOp.lss x27 x26) fun v0=>al v0
 (bd (aR 6 x25 x27) fun v1=>bd (ldA st v1 6) fun v2=>nw st [LV.str [],LV.nilp,LV.bool false,LV.bool false,LV.bool false,LV.bool false] fun v3 dO=>bd2 (lmk (stV dO 6 v3 v2)) fun _v5 mK=>bd (ldA mK x4 1) fun v7=>bd (ad 0 v3) fun v8=>bd (ld1 mK v8) fun v9=>LZ 50 [v7,v9] mK fun aT nE=>bd (ai aT 0) fun lE=>bd (ai aT 1) fun _=>nw nE [LV.nili] fun bY oF=>bd2 (lmk (stV oF 1 bY lE)) fun _ gE=>bd (ldA gE x5 1) fun lT=>bd (ad 0 v3) fun p7=>bd (ld1 gE p7) fun p8=>LZ 50 [lT,p8] gE fun c7 oR=>bd (ai c7 0) fun p9=>bd (ai c7 1) fun _=>nw oR [LV.nili] fun rW aS=>bd2 (lmk (stV aS 1 rW p9)) fun _ iD=>bd (ldA iD rW 1) fun tO=>LZ 55 [tO] iD fun v30 eQ=>bd (lun UnOp.not v30) fun v32=>al v32
 (bd (ad 0 v3) fun v33=>bd (ld1 eQ v33) fun v34=>bd (aL (ao (ay [(0,1),(1,1)]) [i64 0,LV.str []] [(0,i64 4),(1,v34)])) fun v35=>bd2 (lmk (stV eQ 2 x6 v35)) fun _v36 iF=>bd (ldA iF x6 2) fun v38=>R v38 iF)
 (bd (ldA eQ bY 1) fun v39=>bd (ldA eQ rW 1) fun v40=>LZ 56 [v39,v40] eQ fun v41 gT=>bd (lun UnOp.not v41) fun v43=>al v43
 (bd (ad 0 v3) fun v44=>bd (ld1 gT v44) fun v45=>bd (aL (ao (ay [(0,1),(1,1)]) [i64 0,LV.str []] [(0,i64 5),(1,v45)])) fun v46=>bd2 (lmk (stV gT 2 x6 v46)) fun _v47 iN=>bd (ldA iN x6 2) fun v49=>R v49 iN)
 (bd (ak BinOp.add x27 (i64 1)) fun v50=>Cw x4 x5 x6 x25 x26 v50 R gT)))
 (bd (aL (ao (ay [(0,1),(1,1)]) [i64 0,LV.str []] [])) fun v51=>bd2 (lmk (stV st 2 x6 v51)) fun _v52 iS=>bd (ldA iS x6 2) fun v54=>R v54 iS)
theorem Kn (x4 x5 x6 x25 x26 x27:LV) {R:LV.RT} {st:aa} (h:FP x4 x5 x6 x25 x26 x27 R st):Cw x4 x5 x6 x25 x26 x27 R st:=
 pz ND [] h
def Cx (x3 x4 x21 x22 x23:LV) (R:LV.RT) (st:aa):Prop:=LTg Tryz.prog (kindOf false) [.cell 4 92] (bg Tryz.f59 6) [] R (LV.jk 3 (x3::x4::(LV.jk 16 (x21::x22::x23::(LV.jk 18 []))))) st
def NF:List Nat:=(LV.gx 0 42 [3,4,21,22,23])
def w59 (a0 a1:LV) (R:LV.RT) (st:aa):Prop:=
 bd2 (b8 st a1) fun v0 iS=>nw iS [i64 0,LV.str []] fun v2 iF=>bd (ldA iF v0 1) fun v4=>LZ 124 [a0,v4] iF fun v5 mK=>bd (ai v5 0) fun v7=>bd (ai v5 1) fun v8=>nw mK [i64 0,LV.str []] fun v9 gT=>bd2 (lmk (stV gT 2 v9 v7)) fun _ eQ=>bd (lun UnOp.not v8) fun nE=>al nE (bd (ldA eQ v9 2) fun oF=>bd2 (lmk (stV eQ 2 v2 oF)) fun _ gE=>bd (ldA gE v2 2) fun oR=>R oR gE)
 (LZ 36 [a0] eQ fun iN iD=>bd (bo iN) fun rW=>Cx v0 v2 iN rW (i64 0) R iD)
theorem c59 (a0 a1:LV) {R:LV.RT} {st:aa} (h:w59 a0 a1 R st):LZ 59 [a0,a1] st R:=
 cz NF [] [.cell 4 92] Tryz.func59 h
def FQ (x3 x4 x21 x22 x23:LV) (R:LV.RT) (st:aa):Prop:=
 bd (ak BinOp.lss x23 x22) fun v0=>al v0
 (bd (aR 6 x21 x23) fun v1=>bd (ldA st v1 6) fun v2=>nw st [LV.str [],LV.nilp,LV.bool false,LV.bool false,LV.bool false,LV.bool false] fun v3 oF=>bd2 (lmk (stV oF 6 v3 v2)) fun _ iF=>bd (ldA iF x3 1) fun v7=>bd (ad 0 v3) fun v8=>bd (ld1 iF v8) fun v9=>LZ 50 [v7,v9] iF fun mK iN=>bd (ai mK 0) fun oR=>bd (ai mK 1) fun _=>nw iN [LV.nili] fun nE iS=>bd2 (lmk (stV iS 1 nE oR)) fun _ gE=>bd (ldA gE nE 1) fun rW=>LZ 55 [rW] gE fun aS eQ=>bd (lun UnOp.not aS) fun aT=>al aT
 (bd (ad 0 v3) fun bY=>bd (ld1 eQ bY) fun c7=>bd (aL (ao (ay [(0,1),(1,1)]) [i64 0,LV.str []] [(0,i64 4),(1,c7)])) fun dO=>bd2 (lmk (stV eQ 2 x4 dO)) fun _ gT=>bd (ldA gT x4 2) fun lE=>R lE gT)
 (bd (ak BinOp.add x23 (i64 1)) fun lT=>Cx x3 x4 x21 x22 lT R eQ))
 (bd (aL (ao (ay [(0,1),(1,1)]) [i64 0,LV.str []] [])) fun p7=>bd2 (lmk (stV st 2 x4 p7)) fun _ iD=>bd (ldA iD x4 2) fun p8=>R p8 iD)
theorem Ko (x3 x4 x21 x22 x23:LV) {R:LV.RT} {st:aa} (h:FQ x3 x4 x21 x22 x23 R st):Cx x3 x4 x21 x22 x23 R st:=
 pz NF [] h
def NG (a0 a1 a2:LV) (R:LV.RT) (st:aa):Prop:=
 bd2 (b8 st a0) fun v0 st1=>bd2 (b8 st1 a1) fun v2 st3=>bd2 (b8 st3 a2) fun v4 st5=>nw st5 [i64 0,LV.str []] fun v6 st7=>bd (ldA st7 v2 1) fun v8=>bd (ad 0 v0) fun v9=>bd (ld1 st7 v9) fun v10=>LZ 50 [v8,v10] st7 fun v11 st12=>bd (ai v11 0) fun v13=>bd (ai v11 1) fun _v14=>nw st12 [LV.nili] fun tO st16=>bd2 (lmk (stV st16 1 tO v13)) fun _v17 nE=>bd (ldA nE v4 1) fun v19=>bd (ad 0 v0) fun v20=>bd (ld1 nE v20) fun v21=>LZ 50 [v19,v21] nE fun v22 st23=>bd (ai v22 0) fun v24=>bd (ai v22 1) fun _v25=>nw st23 [LV.nili] fun rW st27=>bd2 (lmk (stV st27 1 rW v24)) fun _v28 aS=>bd (ldA aS tO 1) fun v30=>LZ 46 [v30] aS fun v31 gE=>bd (ak BinOp.eql v31 (i64 0)) fun v33=>bd (lun UnOp.not v33) fun v34=>al v34
 (bd (ldA gE tO 1) fun v35=>LZ 55 [v35] gE fun v36 eQ=>al v36
 (bd (ldA eQ tO 1) fun v38=>bd (ldA eQ rW 1) fun v39=>LZ 48 [v38,v39] eQ fun v40 gT=>bd (lun UnOp.not v40) fun v42=>al v42
 (bd (ad 0 v0) fun v43=>bd (ld1 gT v43) fun v44=>bd (aL (ao (ay [(0,1),(1,1)]) [i64 0,LV.str []] [(0,i64 2),(1,v44)])) fun v45=>bd2 (lmk (stV gT 2 v6 v45)) fun _v46 aT=>bd (ldA aT v6 2) fun v48=>R (LV.tup [v48,LV.bool false]) aT)
 (al v33
 (bd (ad 3 v0) fun v49=>bd (ld1 gT v49) fun v50=>bd (lun UnOp.not v50) fun v51=>al v51
 (bd (ldA gT rW 1) fun v52=>LZ 46 [v52] gT fun v53 oF=>bd (ak BinOp.neq v53 (i64 0)) fun v55=>al v55
 (bd (ad 0 v0) fun v56=>bd (ld1 oF v56) fun v57=>bd
 (aL
 (ao (ay [(0,1),(1,1)]) [i64 0,LV.str []] [(0,i64 3),(1,v57)]))
 fun v58=>bd2 (lmk (stV oF 2 v6 v58)) fun _v59 bY=>bd (ldA bY v6 2) fun v61=>R (LV.tup [v61,LV.bool false]) bY)
 (bd (aL (ao (ay [(0,1),(1,1)]) [i64 0,LV.str []] [])) fun v62=>bd2 (lmk (stV oF 2 v6 v62)) fun _v63 c7=>bd (ldA c7 v6 2) fun v65=>R (LV.tup [v65,LV.bool true]) c7))
 (bd (aL (ao (ay [(0,1),(1,1)]) [i64 0,LV.str []] [])) fun v66=>bd2 (lmk (stV gT 2 v6 v66)) fun _v67 dO=>bd (ldA dO v6 2) fun v69=>R (LV.tup [v69,LV.bool true]) dO))
 (bd (aL (ao (ay [(0,1),(1,1)]) [i64 0,LV.str []] [])) fun v70=>bd2 (lmk (stV gT 2 v6 v70)) fun _v71 lE=>bd (ldA lE v6 2) fun v73=>R (LV.tup [v73,LV.bool true]) lE)))
 (al v33
 (bd (ad 3 v0) fun v74=>bd (ld1 eQ v74) fun v75=>bd (lun UnOp.not v75) fun v76=>al v76
 (bd (ldA eQ rW 1) fun v77=>LZ 46 [v77] eQ fun v78 oR=>bd (ak BinOp.neq v78 (i64 0)) fun v80=>al v80
 (bd (ad 0 v0) fun v81=>bd (ld1 oR v81) fun v82=>bd (aL (ao (ay [(0,1),(1,1)]) [i64 0,LV.str []] [(0,i64 3),(1,v82)]))
 fun v83=>bd2 (lmk (stV oR 2 v6 v83)) fun _v84 lT=>bd (ldA lT v6 2) fun v86=>R (LV.tup [v86,LV.bool false]) lT)
 (bd (aL (ao (ay [(0,1),(1,1)]) [i64 0,LV.str []] [])) fun v87=>bd2 (lmk (stV oR 2 v6 v87)) fun _v88 p7=>bd (ldA p7 v6 2) fun v90=>R (LV.tup [v90,LV.bool true]) p7))
 (bd (aL (ao (ay [(0,1),(1,1)]) [i64 0,LV.str []] [])) fun v91=>bd2 (lmk (stV eQ 2 v6 v91)) fun _v92 p8=>bd (ldA p8 v6 2) fun v94=>R (LV.tup [v94,LV.bool true]) p8))
 (bd (aL (ao (ay [(0,1),(1,1)]) [i64 0,LV.str []] [])) fun v95=>bd2 (lmk (stV eQ 2 v6 v95)) fun _v96 p9=>bd (ldA p9 v6 2) fun v98=>R (LV.tup [v98,LV.bool true]) p9)))
 (al v33
 (bd (ad 3 v0) fun v99=>bd (ld1 gE v99) fun v100=>bd (lun UnOp.not v100) fun v101=>al v101
 (bd (ldA gE rW 1) fun v102=>LZ 46 [v102] gE fun v103 iD=>bd (ak BinOp.neq v103 (i64 0)) fun v105=>al v105
 (bd (ad 0 v0) fun v106=>bd (ld1 iD v106) fun v107=>bd (aL (ao (ay [(0,1),(1,1)]) [i64 0,LV.str []] [(0,i64 3),(1,v107)]))
 fun v108=>bd2 (lmk (stV iD 2 v6 v108)) fun _v109 iF=>bd (ldA iF v6 2) fun v111=>R (LV.tup [v111,LV.bool false]) iF)
 (bd (aL (ao (ay [(0,1),(1,1)]) [i64 0,LV.str []] [])) fun v112=>bd2 (lmk (stV iD 2 v6 v112)) fun _v113 iN=>bd (ldA iN v6 2) fun v115=>R (LV.tup [v115,LV.bool true]) iN))
 (bd (aL (ao (ay [(0,1),(1,1)]) [i64 0,LV.str []] [])) fun v116=>bd2 (lmk (stV gE 2 v6 v116)) fun _v117 iS=>bd (ldA iS v6 2) fun v119=>R (LV.tup [v119,LV.bool true]) iS))
 (bd (aL (ao (ay [(0,1),(1,1)]) [i64 0,LV.str []] [])) fun v120=>bd2 (lmk (stV gE 2 v6 v120)) fun _v121 mK=>bd (ldA mK v6 2) fun v123=>R (LV.tup [v123,LV.bool true]) mK))
theorem c127 (a0 a1 a2:LV) {R:LV.RT} {st:aa} (h:NG a0 a1 a2 R st):LZ 127 [a0,a1,a2] st R:=
 cz [] [] [.cell 6 92,.tmp 7] Tryz.func127 h
def ph (x4 x5 x7 x11 x12 x13:LV) (R:LV.RT) (st:aa):Prop:=LTg Tryz.prog (kindOf false) [.tmp 6] (bg Tryz.f129 4) [] R (LV.jk 4 (x4::x5::.aN::x7::(LV.jk 3 (x11::x12::x13::(LV.jk 18 []))))) st
def Kp:List Nat:=(LV.gx 0 32 [4,5,7,11,12,13])
def NH (a0 a1 a2:LV) (R:LV.RT) (st:aa):Prop:=
 bd2 (b8 st a1) fun v0 eQ=>bd2 (b8 eQ a2) fun v2 gE=>LZ 36 [a0] gE fun v4 gT=>bd (bo v4) fun v6=>ph v0 v2 LV.nils v4 v6 (i64 0) R gT
theorem OU (a0 a1 a2:LV) {R:LV.RT} {st:aa} (h:NH a0 a1 a2 R st):LZ 129 [a0,a1,a2] st R:=
 cz Kp [] [.tmp 6] Tryz.func129 h
def Ao (x4 x5 x7 x11 x12 x13:LV) (R:LV.RT) (st:aa):Prop:=
 bd (ak BinOp.lss x13 x12) fun v0=>al v0
 (bd (aR 6 x11 x13) fun v1=>bd (ldA st v1 6) fun v2=>nw st [LV.str [],LV.nilp,LV.bool false,LV.bool false,LV.bool false,LV.bool false] fun v3 iF=>bd2 (lmk (stV iF 6 v3 v2)) fun _ gE=>bd (ad 5 v3) fun v7=>bd (ld1 gE v7) fun v8=>al v8
 (bd (ldA gE v3 6) fun v9=>bd (ldA gE x4 1) fun iN=>bd (ldA gE x5 1) fun iS=>LZ 128 [v9,iN,iS] gE fun mK eQ=>al mK
 (bd (ad 0 v3) fun nE=>bd (ld1 eQ nE) fun oF=>bd2 (aP eQ 1 (ao (fun i=>some (i*1,1)) (List.replicate 1 [LV.str []]).flatten [(0,oF)])) fun oR gT=>bd2 (ar gT 1 16 Md.rw x7 oR) fun rW iD=>bd (ak BinOp.add x13 (i64 1)) fun aS=>ph x4 x5 rW x11 x12 aS R iD)
 (bd (ak BinOp.add x13 (i64 1)) fun aT=>ph x4 x5 x7 x11 x12 aT R eQ))
 (bd (ak BinOp.add x13 (i64 1)) fun bY=>ph x4 x5 x7 x11 x12 bY R gE))
 (R x7 st)
theorem FR (x4 x5 x7 x11 x12 x13:LV) {R:LV.RT} {st:aa} (h:Ao x4 x5 x7 x11 x12 x13 R st):ph x4 x5 x7 x11 x12 x13 R st:=
 pz Kp [] h
def Cy (x0 x4 x6 x7 x8 x10 x33 x34 x35 x50 x51 x52 x77 x78 x79:LV) (R:LV.RT) (st:aa):Prop:=LTg Tryz.prog (kindOf false) [.cell 10 92] (bg Tryz.f65 6) [] R (x0::(LV.jk 3 (x4::.aN::x6::x7::x8::.aN::x10::(LV.jk 22 (x33::x34::x35::(LV.jk 14 (x50::x51::x52::(LV.jk 24 (x77::x78::x79::(LV.jk 11 [])))))))))) st
def Ap (x0 x4 x6 x7 x8 x10 x33 x34 x35 x50 x51 x52 x77 x78 x79:LV) (R:LV.RT) (st:aa):Prop:=LTg Tryz.prog (kindOf false) [.cell 10 92] (bg Tryz.f65 16) [] R (x0::(LV.jk 3 (x4::.aN::x6::x7::x8::.aN::x10::(LV.jk 22 (x33::x34::x35::(LV.jk 14 (x50::x51::x52::(LV.jk 24 (x77::x78::x79::(LV.jk 11 [])))))))))) st
def Aq (x0 x4 x6 x7 x8 x10 x33 x34 x35 x50 x51 x52 x77 x78 x79:LV) (R:LV.RT) (st:aa):Prop:=LTg Tryz.prog (kindOf false) [.cell 10 92] (bg Tryz.f65 26) [] R (x0::(LV.jk 3 (x4::.aN::x6::x7::x8::.aN::x10::(LV.jk 22 (x33::x34::x35::(LV.jk 14 (x50::x51::x52::(LV.jk 24 (x77::x78::x79::(LV.jk 11 [])))))))))) st
def IV:List Nat:=(LV.gx 1 90 [4,6,7,8,10,33,34,35,50,51,52,77,78,79])
def w65 (a0 a1 a2 a3 a4:LV) (R:LV.RT) (st:aa):Prop:=
 bd2 (b8 st a1) fun v0 nE=>bd2 (b8 nE a2) fun v2 oF=>bd2 (b8 oF a3) fun v4 oR=>nw oR [i64 0,LV.str []] fun v6 iN=>bd (ldA iN v4 1) fun v8=>LZ 124 [a0,v8] iN fun v9 gT=>bd (ai v9 0) fun rW=>bd (ai v9 1) fun aS=>nw gT [i64 0,LV.str []] fun iS iD=>bd2 (lmk (stV iD 2 iS rW)) fun _ eQ=>bd (lun UnOp.not aS) fun aT=>al aT (bd (ldA eQ iS 2) fun bY=>bd2 (lmk (stV eQ 2 v6 bY)) fun _ gE=>bd (ldA gE v6 2) fun c7=>R c7 gE)
 (LZ 36 [a0] eQ fun mK iF=>bd (bo mK) fun dO=>Cy a0 a4 v0 v2 v4 v6 mK dO (i64 0) (LV.tup []) (LV.tup []) (LV.tup []) (LV.tup []) (LV.tup []) (LV.tup []) R iF)
theorem c65 (a0 a1 a2 a3 a4:LV) {R:LV.RT} {st:aa} (h:w65 a0 a1 a2 a3 a4 R st):LZ 65 [a0,a1,a2,a3,a4] st R:=
 cz IV [] [.cell 10 92] Tryz.func65 h
def FT (x0 x4 x6 x7 x8 x10 x33 x34 x35 x50 x51 x52 x77 x78 x79:LV) (R:LV.RT) (st:aa):Prop:=
 bd (ak BinOp.lss x35 x34) fun v0=>al v0
 (bd (aR 6 x33 x35) fun v1=>bd (ldA st v1 6) fun v2=>nw st [LV.str [],LV.nilp,LV.bool false,LV.bool false,LV.bool false,LV.bool false] fun v3 mK=>bd2 (lmk (stV mK 6 v3 v2)) fun _ gT=>bd (ldA gT v3 6) fun v7=>bd (ldA gT x6 1) fun v8=>bd (ldA gT x8 1) fun v9=>LZ 127 [v7,v8,v9] gT fun iN iD=>bd (ai iN 0) fun nE=>bd (ai iN 1) fun oF=>nw iD [i64 0,LV.str []] fun iS iF=>bd2 (lmk (stV iF 2 iS nE)) fun _ eQ=>bd (lun UnOp.not oF) fun oR=>al oR (bd (ldA eQ iS 2) fun rW=>bd2 (lmk (stV eQ 2 x10 rW)) fun _ gE=>bd (ldA gE x10 2) fun aS=>R aS gE)
 (bd (ak BinOp.add x35 (i64 1)) fun aT=>Cy x0 x4 x6 x7 x8 x10 x33 x34 aT x50 x51 x52 x77 x78 x79 R eQ))
 (bd (bo x4) fun bY=>Ap x0 x4 x6 x7 x8 x10 x33 x34 x35 x4 bY (i64 0) x77 x78 x79 R st)
theorem Kq (x0 x4 x6 x7 x8 x10 x33 x34 x35 x50 x51 x52 x77 x78 x79:LV) {R:LV.RT} {st:aa} (h:FT x0 x4 x6 x7 x8 x10 x33 x34 x35 x50 x51 x52 x77 x78 x79 R st):Cy x0 x4 x6 x7 x8 x10 x33 x34 x35 x50 x51 x52 x77 x78 x79 R st:=
 pz IV [] h
def FU (x0 x4 x6 x7 x8 x10 x33 x34 x35 x50 x51 x52 x77 x78 x79:LV) (R:LV.RT) (st:aa):Prop:=
 bd (ak BinOp.lss x52 x51) fun v0=>al v0
 (bd (aR 1 x50 x52) fun v1=>bd (ld1 st v1) fun v2=>LZ 39 [x0,v2] st fun v3 iS=>bd (ai v3 0) fun v5=>bd (ai v3 1) fun v6=>nw iS [LV.str [],LV.nilp,LV.bool false,LV.bool false,LV.bool false,LV.bool false] fun v7 mK=>bd2 (lmk (stV mK 6 v7 v5)) fun _ eQ=>bd (lun UnOp.not v6) fun nE=>al nE
 (bd (aL (ao (ay [(0,1),(1,1)]) [i64 0,LV.str []] [(0,i64 6),(1,v2)])) fun oF=>bd2 (lmk (stV eQ 2 x10 oF)) fun _ gE=>bd (ldA gE x10 2) fun oR=>R oR gE)
 (bd (ldA eQ v7 6) fun rW=>bd (ldA eQ x7 1) fun aS=>bd (ldA eQ x8 1) fun aT=>LZ 128 [rW,aS,aT] eQ fun bY gT=>bd (lun UnOp.not bY) fun c7=>al c7
 (bd (aL (ao (ay [(0,1),(1,1)]) [i64 0,LV.str []] [(0,i64 6),(1,v2)])) fun dO=>bd2 (lmk (stV gT 2 x10 dO)) fun _ iD=>bd (ldA iD x10 2) fun lE=>R lE iD)
 (bd (ak BinOp.add x52 (i64 1)) fun lT=>Ap x0 x4 x6 x7 x8 x10 x33 x34 x35 x50 x51 lT x77 x78 x79 R gT)))
 (bd (ldA st x7 1) fun p7=>bd (ldA st x8 1) fun p8=>LZ 129 [x0,p7,p8] st fun iN iF=>bd (bo iN) fun p9=>Aq x0 x4 x6 x7 x8 x10 x33 x34 x35 x50 x51 x52 iN p9 (i64 0) R iF)
theorem LO (x0 x4 x6 x7 x8 x10 x33 x34 x35 x50 x51 x52 x77 x78 x79:LV) {R:LV.RT} {st:aa} (h:FU x0 x4 x6 x7 x8 x10 x33 x34 x35 x50 x51 x52 x77 x78 x79 R st):Ap x0 x4 x6 x7 x8 x10 x33 x34 x35 x50 x51 x52 x77 x78 x79 R st:=
 pz IV [] h
def FV (x0 x4 x6 x7 x8 x10 x33 x34 x35 x50 x51 x52 x77 x78 x79:LV) (R:LV.RT) (st:aa):Prop:=
 bd (ak BinOp.lss x79 x78) fun v0=>al v0
 (bd (aR 1 x77 x79) fun v1=>bd (ld1 st v1) fun v2=>LZ 96 [x4,v2] st fun v3 gE=>bd (lun UnOp.not v3) fun v5=>al v5
 (bd (aL (ao (ay [(0,1),(1,1)]) [i64 0,LV.str []] [(0,i64 7),(1,v2)])) fun v6=>bd2 (lmk (stV gE 2 x10 v6)) fun _ gT=>bd (ldA gT x10 2) fun v9=>R v9 gT)
 (bd (ak BinOp.add x79 (i64 1)) fun iD=>Aq x0 x4 x6 x7 x8 x10 x33 x34 x35 x50 x51 x52 x77 x78 iD R gE))
 (bd (aL (ao (ay [(0,1),(1,1)]) [i64 0,LV.str []] [])) fun iF=>bd2 (lmk (stV st 2 x10 iF)) fun _ eQ=>bd (ldA eQ x10 2) fun iN=>R iN eQ)
theorem LP (x0 x4 x6 x7 x8 x10 x33 x34 x35 x50 x51 x52 x77 x78 x79:LV) {R:LV.RT} {st:aa} (h:FV x0 x4 x6 x7 x8 x10 x33 x34 x35 x50 x51 x52 x77 x78 x79 R st):Aq x0 x4 x6 x7 x8 x10 x33 x34 x35 x50 x51 x52 x77 x78 x79 R st:=
 pz IV [] h
def FW (x5 x7 x10 x58:LV) (R:LV.RT) (st:aa):Prop:=LTg Tryz.prog (kindOf false) [.tmp 6] (bg Tryz.f14 7) [] R (LV.jk 5 (x5::.aN::x7::.aN::.aN::x10::(LV.jk 47 (x58::(LV.jk 32 []))))) st
def se (x6:LV) (R:LV.RT) (st:aa):Prop:=LTg Tryz.prog (kindOf false) [.tmp 6] (bg Tryz.f14 12) [] R (LV.jk 6 (x6::(LV.jk 84 []))) st
def LQ:List (Nat × List Nat):=[(7,(LV.gx 0 91 [5,7,10,58])),(12,(LV.gx 0 91 [6]))]
def w14 (a0 a1 a2:LV) (R:LV.RT) (st:aa):Prop:=
 bd2 (b8 st a1) fun v0 st1=>bd2 (b8 st1 a2) fun v2 p7=>bd (ldA p7 v0 7) fun v4=>LZ 24 [v4] p7 fun v5 nE=>bd (ak BinOp.gtr v5 (i64 0)) fun v7=>al v7 (LZ 54 [] nE fun v8 st9=>R v8 st9)
 (bd (ldA nE v2 7) fun v10=>LZ 24 [v10] nE fun v11 iF=>bd (ak BinOp.gtr v11 (i64 0)) fun v13=>al v13 (LZ 54 [] iF fun v14 oF=>R v14 oF)
 (LZ 54 [] iF fun v16 iN=>bd (lun UnOp.not v16) fun v18=>al v18 (LZ 54 [] iN fun v19 oR=>R v19 oR)
 (LZ 26 [a0] iN fun rW aS=>bd (ai rW 0) fun mK=>bd (ai rW 1) fun v24=>bd (ai rW 2) fun v25=>nw aS [i64 0,LV.nils] fun v26 aT=>bd2 (lmk (stV aT 2 v26 v24)) fun _v28 iS=>bd (ldA iS v0 7) fun v30=>LZ 27 [v30] iS fun v31 bY=>LZ 29 [v31] bY fun v33 c7=>LZ 42 [mK,v33] c7 fun p8 dO=>bd (ai p8 0) fun v37=>bd (ai p8 1) fun v38=>nw dO [LV.nili] fun gE lE=>bd2 (lmk (stV lE 1 gE v37)) fun _v41 eQ=>bd (ak BinOp.gtr v25 (i64 0)) fun v43=>al v43 (R (LV.bool true) eQ)
 (bd (ak BinOp.neq v38 (i64 0)) fun v44=>al v44 (R (LV.bool true) eQ)
 (bd (ldA eQ gE 1) fun p9=>bd (ldA eQ gE 1) fun tO=>bd (aL (ao (ay [(0,1),(1,1)]) [i64 0,LV.str []] [])) fun v47=>LZ 66 [] eQ fun v48 iD=>ldA iD gE 1=some tO∧
 ldA iD gE 1=some p9∧
 LZ 65 [mK,p9,v48,tO,LV.nils] iD fun v50 gT=>bd (eqB BinOp.neq (jh (leq Tryz.prog 64 92) v50 v47)) fun v52=>al v52 (FW v2 mK gE (LV.bool true) R gT)
 (bd (ldA gT gE 1) fun v53=>bd (ldA gT gE 1) fun v54=>LZ 56 [v53,v54] gT fun v55 lT=>bd (lun UnOp.not v55) fun v57=>FW v2 mK gE v57 R lT))))))
theorem c14 (a0 a1 a2:LV) {R:LV.RT} {st:aa} (h:w14 a0 a1 a2 R st):LZ 14 [a0,a1,a2] st R:=
 cz [] LQ [.tmp 6] Tryz.func14 h
def Kr (x5 x7 x10 x58:LV) (R:LV.RT) (st:aa):Prop:=
 al x58 (R (LV.bool false) st)
 (bd (ldA st x5 7) fun v0=>LZ 27 [v0] st fun v1 oF=>LZ 29 [v1] oF fun v3 oR=>nw oR [LV.nili] fun v5 rW=>bd2 (lmk (stV rW 1 v5 v3)) fun _v7 iN=>bd (ldA iN x10 1) fun v9=>bd (ldA iN v5 1) fun aS=>LZ 58 [x7,v9,aS] iN fun aT gT=>bd (aL (ao (ay [(0,1),(1,1)]) [i64 0,LV.str []] [])) fun bY=>bd (eqB BinOp.neq (jh (leq Tryz.prog 64 92) aT bY)) fun c7=>al c7 (R (LV.bool true) gT)
 (bd (ldA gT v5 1) fun dO=>LZ 55 [dO] gT fun lE eQ=>al lE
 (bd (ldA eQ x10 1) fun lT=>bd (ldA eQ v5 1) fun p7=>LZ 56 [lT,p7] eQ fun p8 iD=>al p8
 (bd (ldA iD v5 1) fun p9=>bd (aL (ao (ay [(0,1),(1,1)]) [i64 0,LV.str []] [])) fun tO=>LZ 59 [x7,p9] iD fun v24 gE=>bd (eqB BinOp.eql (jh (leq Tryz.prog 64 92) v24 tO)) fun v26=>al v26
 (bd (ldA gE v5 1) fun mK=>bd (ldA gE v5 1) fun nE=>bd (aL (ao (ay [(0,1),(1,1)]) [i64 0,LV.str []] [])) fun v29=>LZ 66 [] gE fun v30 iF=>ldA iF v5 1=some nE∧
 ldA iF v5 1=some mK∧
 LZ 65 [x7,mK,v30,nE,LV.nils] iF fun v32 iS=>bd (eqB BinOp.eql (jh (leq Tryz.prog 64 92) v32 v29)) fun v34=>se v34 R iS)
 (se (LV.bool false) R gE))
 (se (LV.bool false) R iD))
 (se (LV.bool false) R eQ)))
theorem NI (x5 x7 x10 x58:LV) {R:LV.RT} {st:aa} (h:Kr x5 x7 x10 x58 R st):FW x5 x7 x10 x58 R st:=
 pz [] LQ h
def LR (x6:LV) (R:LV.RT) (st:aa):Prop:=
 R x6 st
theorem LS (x6:LV) {R:LV.RT} {st:aa} (h:LR x6 R st):se x6 R st:=
 pz [] LQ h
def Cz (x0 x1 x5 x6 x7 x8:LV) (R:LV.RT) (st:aa):Prop:=LTg Tryz.prog (kindOf false) [.tmp 4] (bg Tryz.f3 12) [] R (x0::x1::(LV.jk 3 (x5::x6::x7::x8::(LV.jk 167 [])))) st
def gl3:List Nat:=(LV.gx 2 174 [5,6,7,8])
def rc3:List (Nat × List Nat):=[(16,(LV.gx 2 174 [5,6,7,8,11]))]
def w3 (a0 a1:LV) (R:LV.RT) (st:aa):Prop:=
 bd (bo a1) fun v0=>bd (ak BinOp.gtr v0 (i64 20)) fun v1=>al v1 (LZ 17 [] st fun v2 gE=>R v2 gE)
 (LZ 17 [] st fun v4 eQ=>bd (lun UnOp.not v4) fun v6=>al v6 (LZ 17 [] eQ fun v7 gT=>R v7 gT)
 (bd (ak BinOp.lss a0 (i64 0)) fun v9=>al v9 (Cz a0 a1 LV.nils (i64 2) (LV.str []) (i64 0) R eQ)
 (bd (ak BinOp.gtr a0 (i64 1000)) fun iD=>al iD (Cz a0 a1 LV.nils (i64 2) (LV.str []) (i64 0) R eQ)
 (bd (bo a1) fun iF=>bd (ak BinOp.gtr iF (i64 16)) fun iN=>al iN (Cz a0 a1 LV.nils (i64 3) (LV.str []) (i64 0) R eQ)
 (Cz a0 a1 LV.nils (i64 0) (LV.str []) (i64 0) R eQ)))))
theorem c3 (a0 a1:LV) {R:LV.RT} {st:aa} (h:w3 a0 a1 R st):LZ 3 [a0,a1] st R:=
 cz gl3 rc3 [.tmp 4] Tryz.func3 h
def Ed (x1 x5 x8 x11 x90:LV) (R:LV.RT) (st:aa):Prop:=LTg Tryz.prog (kindOf false) [.tmp 4] (bg Tryz.f5 8) [] R (.aN::x1::(LV.jk 3 (x5::.aN::.aN::x8::.aN::.aN::x11::(LV.jk 78 (x90::(LV.jk 101 [])))))) st
def gl5:List Nat:=(LV.gx 0 192 [1,5,8,11,12])
def rc5:List (Nat × List Nat):=[(8,(LV.gx 0 192 [1,5,8,11,90]))]
def w5 (a0 a1:LV) (R:LV.RT) (st:aa):Prop:=
 bd (bJ a0) fun v0=>bd (ak BinOp.gtr v0 (i64 600)) fun v1=>al v1 (LZ 17 [] st fun v2 p8=>R v2 p8)
 (bd (bJ a1) fun v4=>bd (ak BinOp.gtr v4 (i64 60)) fun v5=>al v5 (LZ 17 [] st fun v6 p9=>R v6 p9)
 (LZ 17 [] st fun v8 bY=>bd (lun UnOp.not v8) fun tO=>al tO (LZ 17 [] bY fun v11 mK=>R v11 mK)
 (LZ 21 [a0] bY fun nE oF=>bd (ai nE 0) fun eQ=>bd (ai nE 1) fun c7=>bd (ai nE 2) fun dO=>LZ 35 [a0] oF fun oR rW=>bd (ai oR 0) fun v20=>bd (ai oR 1) fun v21=>bd (ai oR 2) fun lE=>nw rW [i64 0,LV.nils] fun gT aS=>bd2 (lmk (stV aS 2 gT v20)) fun _v25 iD=>bd (ak BinOp.neq lE (i64 0)) fun v27=>al v27
 (bd (eqB BinOp.eql (dW true eQ LV.nilp)) fun v28=>al v28 (bd (ak BinOp.eql c7 v21) fun v29=>al v29 (bd (ak BinOp.eql dO lE) fun v30=>R v30 iD) (R (LV.bool false) iD))
 (R (LV.bool false) iD))
 (LZ 36 [eQ] iD fun iF iN=>bd (ak BinOp.neq c7 (i64 0)) fun v33=>al v33 (Ed a1 eQ gT iF (LV.bool true) R iN)
 (bd (ak BinOp.neq dO (i64 0)) fun v34=>al v34 (Ed a1 eQ gT iF (LV.bool true) R iN)
 (LZ 22 [eQ] iN fun v35 iS=>bd (bG BinOp.neq v35 a0) fun v37=>al v37 (Ed a1 eQ gT iF (LV.bool true) R iS)
 (bd (ad 0 gT) fun lT=>bd (ld1 iS lT) fun p7=>LZ 37 [eQ] iS fun v40 gE=>ld1 gE lT=some p7∧
 bd (ak BinOp.neq v40 p7) fun v42=>al v42 (Ed a1 eQ gT iF (LV.bool true) R gE)
 (bd (bo iF) fun v43=>bd (ad 1 gT) fun v44=>bd (ld1 gE v44) fun v45=>bd (bo v45) fun v46=>bd (ak BinOp.neq v43 v46) fun v47=>al v47 (Ed a1 eQ gT iF (LV.bool true) R gE)
 (LZ 23 [eQ,eQ] gE fun v48 aT=>bd (lun UnOp.not v48) fun v50=>Ed a1 eQ gT iF v50 R aT)))))))))
theorem c5 (a0 a1:LV) {R:LV.RT} {st:aa} (h:w5 a0 a1 R st):LZ 5 [a0,a1] st R:=
 cz gl5 rc5 [.tmp 4] Tryz.func5 h
end Go.Proofs.YtknegckgmklnhaaGreatDoor
