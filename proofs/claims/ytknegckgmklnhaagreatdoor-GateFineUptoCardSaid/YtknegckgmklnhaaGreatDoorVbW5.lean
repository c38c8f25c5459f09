/- Parts of the proof. -/
import Derived.Test.YtknegckgmklnhaaGreatDoorVbW
namespace Go.Proofs.YtknegckgmklnhaaGreatDoor
open Go Go.CP
set_option maxRecDepth 100000
def HH (x2 x3:LV) (R:LV.RT) (st:aa):Prop:=LTg Tryz.prog (kindOf false) [.cell 2 29,.cell 3 123] (bg Tryz.f161 5) [] R (.aN::.aN::x2::x3::(LV.jk 28 [])) st
def wK (x2 x3:LV) (R:LV.RT) (st:aa):Prop:=LTg Tryz.prog (kindOf false) [.cell 2 29,.cell 3 123] (bg Tryz.f161 6) [] R (.aN::.aN::x2::x3::(LV.jk 28 [])) st
def HI:List (Nat × List Nat):=[(5,(LV.gx 0 32 [2,3])),(6,(LV.gx 0 32 [2,3]))]
def Oi (a0:LV) (R:LV.RT) (st:aa):Prop:=
 nw st [i64 0,LV.nils,LV.nils,LV.nils] fun v0 p8=>nw p8 [i64 0,i64 0] fun v2 bY=>bd (bJ a0) fun v4=>bd (ak BinOp.gtr v4 (i64 4096)) fun v5=>al v5
 (bd (aL (ao (ay [(0,1),(1,1),(2,1),(3,1)]) [i64 0,LV.nils,LV.nils,LV.nils] [])) fun v6=>bd (aL (ao (ay [(0,1),(1,1)]) [i64 0,i64 0] [(0,i64 0),(1,i64 3)])) fun v7=>bd2 (lmk (stV bY 4 v0 v6)) fun _v8 p9=>bd2 (lmk (stV p9 2 v2 v7)) fun _ gT=>bd (ldA gT v0 4) fun tO=>bd (ldA gT v2 2) fun v13=>R (LV.tup [tO,v13]) gT)
 (LZ 196 [a0,i64 0,i64 0] bY fun c7 iS=>bd (ai c7 0) fun v16=>bd (ai c7 1) fun v17=>nw iS [i64 0,LV.nils,LV.nils,LV.nils] fun mK nE=>nw nE [i64 0,i64 0] fun gE oF=>bd2 (lmk (stV oF 4 mK v16)) fun _v22 oR=>bd2 (lmk (stV oR 2 gE v17)) fun _v24 eQ=>bd (ad 1 gE) fun v26=>bd (ld1 eQ v26) fun v27=>bd (ak BinOp.eql v27 (i64 0)) fun v28=>al v28
 (bd (ad 0 gE) fun v29=>bd (ld1 eQ v29) fun v30=>bd (bJ a0) fun v31=>bd (ak BinOp.lss v30 v31) fun v32=>al v32
 (bd (aL (ao (ay [(0,1),(1,1),(2,1),(3,1)]) [i64 0,LV.nils,LV.nils,LV.nils] [])) fun v33=>bd (ad 0 gE) fun dO=>bd (ld1 eQ dO) fun lE=>bd (aL (ao (ay [(0,1),(1,1)]) [i64 0,i64 0] [(0,lE),(1,i64 4)])) fun v36=>bd2 (lmk (stV eQ 4 v0 v33)) fun _v37 iD=>ld1 iD dO=some lE∧bd2 (lmk (stV iD 2 v2 v36)) fun _v39 rW=>HH v0 v2 R rW)
 (bd (ldA eQ mK 4) fun v41=>bd (ldA eQ gE 2) fun lT=>bd2 (lmk (stV eQ 4 v0 v41)) fun _v43 iF=>ldA iF gE 2=some lT∧bd2 (lmk (stV iF 2 v2 lT)) fun _v45 aS=>wK v0 v2 R aS))
 (bd (ldA eQ mK 4) fun v47=>bd (ldA eQ gE 2) fun p7=>bd2 (lmk (stV eQ 4 v0 v47)) fun _v49 iN=>ldA iN gE 2=some p7∧bd2 (lmk (stV iN 2 v2 p7)) fun _v51 aT=>wK v0 v2 R aT))
theorem Pn (a0:LV) {R:LV.RT} {st:aa} (h:Oi a0 R st):LZ 161 [a0] st R:=
 cz [] HI [.cell 2 29,.cell 3 123] Tryz.func161 h
def MD (x2 x3:LV) (R:LV.RT) (st:aa):Prop:=
 bd (ldA st x2 4) fun v0=>bd (ldA st x3 2) fun v1=>R (LV.tup [v0,v1]) st
theorem ME (x2 x3:LV) {R:LV.RT} {st:aa} (h:MD x2 x3 R st):HH x2 x3 R st:=
 pz [] HI h
def MF (x2 x3:LV) (R:LV.RT) (st:aa):Prop:=
 bd (ldA st x2 4) fun v0=>bd (ldA st x3 2) fun v1=>R (LV.tup [v0,v1]) st
theorem MG (x2 x3:LV) {R:LV.RT} {st:aa} (h:MF x2 x3 R st):wK x2 x3 R st:=
 pz [] HI h
def td (x0 x1 x2 x6 x7 x8 x9 x10 x11:LV) (R:LV.RT) (st:aa):Prop:=LTg Tryz.prog (kindOf false) [.cell 6 29,.cell 7 123] (bg Tryz.f196 9) [] R (x0::x1::x2::(LV.jk 3 (x6::x7::x8::x9::x10::x11::(LV.jk 125 [])))) st
def qO (x0 x1 x2 x6 x7 x8 x9 x10 x11:LV) (R:LV.RT) (st:aa):Prop:=LTg Tryz.prog (kindOf false) [.cell 6 29,.cell 7 123] (bg Tryz.f196 14) [] R (x0::x1::x2::(LV.jk 3 (x6::x7::x8::x9::x10::x11::(LV.jk 125 [])))) st
def oo (x0 x1 x2 x6 x7 x8 x9 x10 x11 x67:LV) (R:LV.RT) (st:aa):Prop:=LTg Tryz.prog (kindOf false) [.cell 6 29,.cell 7 123] (bg Tryz.f196 15) [] R (x0::x1::x2::(LV.jk 3 (x6::x7::x8::x9::x10::x11::(LV.jk 55 (x67::(LV.jk 69 [])))))) st
def Dg (x6 x7:LV) (R:LV.RT) (st:aa):Prop:=LTg Tryz.prog (kindOf false) [.cell 6 29,.cell 7 123] (bg Tryz.f196 26) [] R (LV.jk 6 (x6::x7::(LV.jk 129 []))) st
def Dh (x6 x7:LV) (R:LV.RT) (st:aa):Prop:=LTg Tryz.prog (kindOf false) [.cell 6 29,.cell 7 123] (bg Tryz.f196 28) [] R (LV.jk 6 (x6::x7::(LV.jk 129 []))) st
def Di (x6 x7:LV) (R:LV.RT) (st:aa):Prop:=LTg Tryz.prog (kindOf false) [.cell 6 29,.cell 7 123] (bg Tryz.f196 29) [] R (LV.jk 6 (x6::x7::(LV.jk 129 []))) st
def tf:List Nat:=(LV.gx 3 134 [6,7,8,9,10,11])
def tg:List (Nat × List Nat):=[(11,(LV.gx 3 134 [6,7,8,9,10,11,67])),(21,(LV.gx 0 137 [6,7])),(23,(LV.gx 0 137 [6,7])),(24,(LV.gx 0 137 [6,7]))]
def MH (a0 a1 a2:LV) (R:LV.RT) (st:aa):Prop:=
 nw st [i64 0,LV.nils,LV.nils,LV.nils] fun v0 c7=>nw c7 [i64 0,i64 0] fun v2 aS=>bd (ak BinOp.geq a2 (i64 8)) fun v4=>al v4
 (bd (aL (ao (ay [(0,1),(1,1),(2,1),(3,1)]) [i64 0,LV.nils,LV.nils,LV.nils] [])) fun v5=>bd (aL (ao (ay [(0,1),(1,1)]) [i64 0,i64 0] [(0,a1),(1,i64 3)])) fun v6=>bd2 (lmk (stV aS 4 v0 v5)) fun _v7 dO=>bd2 (lmk (stV dO 2 v2 v6)) fun _v9 eQ=>bd (ldA eQ v0 4) fun lE=>bd (ldA eQ v2 2) fun lT=>R (LV.tup [lE,lT]) eQ)
 (LZ 243 [a0,a1] aS fun p7 iD=>bd (ak BinOp.eql p7 (i64 91)) fun p8=>al p8
 (LZ 243 [a0,a1] iD fun p9 iN=>bd (ak BinOp.eql p9 (i64 123)) fun tO=>LZ 244 [a0,a1,a2,tO] iN fun aT iS=>bd (ai aT 0) fun v21=>bd (ai aT 1) fun v22=>bd2 (lmk (stV iS 4 v0 v21)) fun _v23 mK=>bd2 (lmk (stV mK 2 v2 v22)) fun _v25 gE=>bd (ldA gE v0 4) fun v27=>bd (ldA gE v2 2) fun v28=>R (LV.tup [v27,v28]) gE)
 (LZ 243 [a0,a1] iD fun v29 iF=>bd (ak BinOp.eql v29 (i64 123)) fun v31=>al v31
 (LZ 243 [a0,a1] iF fun v32 nE=>bd (ak BinOp.eql v32 (i64 123)) fun v34=>LZ 244 [a0,a1,a2,v34] nE fun bY oF=>bd (ai bY 0) fun v37=>bd (ai bY 1) fun v38=>bd2 (lmk (stV oF 4 v0 v37)) fun _v39 oR=>bd2 (lmk (stV oR 2 v2 v38)) fun _v41 gT=>bd (ldA gT v0 4) fun v43=>bd (ldA gT v2 2) fun v44=>R (LV.tup [v43,v44]) gT)
 (bd2
 (aP iF 7
 (ao (fun i=>some (i*1,1)) (List.replicate 7 [LV.str []]).flatten
 [(0,LV.str [97,110,121]),(1,LV.str [98,111,111,108]),(2,LV.str [105,110,116]),(3,LV.str [112,111,105,110,116]),(4,LV.str [116,101,120,116]),
 (5,LV.str [108,105,115,116]),(6,LV.str [109,97,112])]))
 fun v45 rW=>td a0 a1 a2 v0 v2 v45 (i64 0) (i64 0) (LV.tup []) R rW)))
theorem c196 (a0 a1 a2:LV) {R:LV.RT} {st:aa} (h:MH a0 a1 a2 R st):LZ 196 [a0,a1,a2] st R:=
 cz tf tg [.cell 6 29,.cell 7 123] Tryz.func196 h
def Bv (x0 x1 x2 x6 x7 x8 x9 x10:LV) (_x11:LV) (R:LV.RT) (st:aa):Prop:=
 bd (bo x8) fun v0=>bd (ak BinOp.lss x10 v0) fun v1=>al v1 (qO x0 x1 x2 x6 x7 x8 x9 x10 (i64 0) R st)
 (bd (aL (ao (ay [(0,1),(1,1),(2,1),(3,1)]) [i64 0,LV.nils,LV.nils,LV.nils] [])) fun v2=>bd (ak BinOp.add x1 x9) fun v3=>bd (aL (ao (ay [(0,1),(1,1)]) [i64 0,i64 0] [(0,v3),(1,i64 4)])) fun v4=>bd2 (lmk (stV st 4 x6 v2)) fun _ gE=>bd2 (lmk (stV gE 2 x7 v4)) fun _ eQ=>bd (ldA eQ x6 4) fun v9=>bd (ldA eQ x7 2) fun gT=>R (LV.tup [v9,gT]) eQ)
theorem HJ (x0 x1 x2 x6 x7 x8 x9 x10 x11:LV) {R:LV.RT} {st:aa} (h:Bv x0 x1 x2 x6 x7 x8 x9 x10 x11 R st):td x0 x1 x2 x6 x7 x8 x9 x10 x11 R st:=
 pz tf tg h
def wL (x0 x1 x2 x6 x7 x8 x9 x10 x11:LV) (R:LV.RT) (st:aa):Prop:=
 bd (aR 1 x8 x10) fun v0=>bd (ld1 st v0) fun v1=>bd (bJ v1) fun v2=>bd (ak BinOp.lss x11 v2) fun v3=>al v3
 (bd (ak BinOp.add x1 x11) fun v4=>bd (aR 1 x8 x10) fun v5=>bd (ld1 st v5) fun v6=>bd (cv v6 x11) fun v7=>bd (gg IntKind.i64 v7) fun v8=>LZ 243 [x0,v4] st fun v9 eQ=>ld1 eQ v5=some v6∧bd (ak BinOp.eql v9 v8) fun gE=>oo x0 x1 x2 x6 x7 x8 x9 x10 x11 gE R eQ)
 (oo x0 x1 x2 x6 x7 x8 x9 x10 x11 (LV.bool false) R st)
theorem Dj (x0 x1 x2 x6 x7 x8 x9 x10 x11:LV) {R:LV.RT} {st:aa} (h:wL x0 x1 x2 x6 x7 x8 x9 x10 x11 R st):qO x0 x1 x2 x6 x7 x8 x9 x10 x11 R st:=
 pz tf tg h
def qP (x0 x1 x2 x6 x7 x8 x9 x10 x11 x67:LV) (R:LV.RT) (st:aa):Prop:=
 al x67 (bd (ak BinOp.add x11 (i64 1)) fun v0=>qO x0 x1 x2 x6 x7 x8 x9 x10 v0 R st)
 (bd (gI [x9,x11]) fun v1=>bd (aR 1 x8 x10) fun v2=>bd (ld1 st v2) fun v3=>bd (bJ v3) fun v4=>bd (ak BinOp.lss x11 v4) fun v5=>al v5 (bd (ak BinOp.add x10 (i64 1)) fun v6=>td x0 x1 x2 x6 x7 x8 v1 v6 x11 R st)
 (bd (ak BinOp.lss x10 (i64 5)) fun v7=>al v7
 (bd (aL (ao (ay [(0,1),(1,1),(2,1),(3,1)]) [i64 0,LV.nils,LV.nils,LV.nils] [(0,x10)])) fun v8=>bd (ak BinOp.add x1 x11) fun v9=>bd (aL (ao (ay [(0,1),(1,1)]) [i64 0,i64 0] [(0,v9),(1,i64 0)])) fun v10=>bd2 (lmk (stV st 4 x6 v8)) fun _v11 oR=>bd2 (lmk (stV oR 2 x7 v10)) fun _v13 gT=>bd (ldA gT x6 4) fun v15=>bd (ldA gT x7 2) fun v16=>R (LV.tup [v15,v16]) gT)
 (bd (ak BinOp.add x1 x11) fun v17=>LZ 243 [x0,v17] st fun v18 iN=>bd (ak BinOp.neq v18 (i64 40)) fun v20=>al v20
 (bd (aL (ao (ay [(0,1),(1,1),(2,1),(3,1)]) [i64 0,LV.nils,LV.nils,LV.nils] [])) fun v21=>bd (ak BinOp.add x1 x11) fun v22=>bd (aL (ao (ay [(0,1),(1,1)]) [i64 0,i64 0] [(0,v22),(1,i64 4)])) fun v23=>bd2 (lmk (stV iN 4 x6 v21)) fun _v24 rW=>bd2 (lmk (stV rW 2 x7 v23)) fun _v26 iD=>bd (ldA iD x6 4) fun v28=>bd (ldA iD x7 2) fun v29=>R (LV.tup [v28,v29]) iD)
 (bd (ak BinOp.add x1 x11) fun v30=>bd (ak BinOp.add v30 (i64 1)) fun v31=>bd (ak BinOp.add x2 (i64 1)) fun v32=>LZ 196 [x0,v31,v32] iN fun p9 aS=>bd (ai p9 0) fun v35=>bd (ai p9 1) fun v36=>nw aS [i64 0,LV.nils,LV.nils,LV.nils] fun tO aT=>nw aT [i64 0,i64 0] fun iF bY=>bd2 (lmk (stV bY 4 tO v35)) fun _v41 c7=>bd2 (lmk (stV c7 2 iF v36)) fun _v43 eQ=>bd (ad 1 iF) fun v45=>bd (ld1 eQ v45) fun v46=>bd (ak BinOp.neq v46 (i64 0)) fun v47=>al v47
 (bd (aL (ao (ay [(0,1),(1,1),(2,1),(3,1)]) [i64 0,LV.nils,LV.nils,LV.nils] [])) fun v48=>bd (ldA eQ iF 2) fun v49=>bd2 (lmk (stV eQ 4 x6 v48)) fun _v50 iS=>ldA iS iF 2=some v49∧bd2 (lmk (stV iS 2 x7 v49)) fun _v52 dO=>Dg x6 x7 R dO)
 (bd (ad 0 iF) fun v54=>bd (ld1 eQ v54) fun v55=>LZ 243 [x0,v55] eQ fun v56 gE=>bd (ak BinOp.neq v56 (i64 41)) fun v58=>al v58
 (bd (aL (ao (ay [(0,1),(1,1),(2,1),(3,1)]) [i64 0,LV.nils,LV.nils,LV.nils] [])) fun v59=>bd (ad 0 iF) fun v60=>bd (ld1 gE v60) fun v61=>bd (aL (ao (ay [(0,1),(1,1)]) [i64 0,i64 0] [(0,v61),(1,i64 4)]))
 fun v62=>bd2 (lmk (stV gE 4 x6 v59)) fun _v63 mK=>ld1 mK v60=some v61∧bd2 (lmk (stV mK 2 x7 v62)) fun _v65 lE=>Dh x6 x7 R lE)
 (bd (ldA gE tO 4) fun v67=>bd (ad 0 iF) fun lT=>bd (ld1 gE lT) fun p7=>bd (ak BinOp.add p7 (i64 1)) fun v70=>bd (aL (ao (ay [(0,1),(1,1)]) [i64 0,i64 0] [(0,v70),(1,i64 0)]))
 fun v71=>bd2
 (aP gE 1
 (ao (fun i=>some (i*4,4)) (List.replicate 1 [i64 0,LV.nils,LV.nils,LV.nils]).flatten
 [(0,v67)]))
 fun v72 nE=>ld1 nE lT=some p7∧
 bd
 (aL
 (ao (ay [(0,1),(1,1),(2,1),(3,1)]) [i64 0,LV.nils,LV.nils,LV.nils]
 [(0,x10),(1,v72)]))
 fun v74=>bd2 (lmk (stV nE 4 x6 v74)) fun _v75 oF=>ld1 oF lT=some p7∧bd2 (lmk (stV oF 2 x7 v71)) fun _v77 p8=>Di x6 x7 R p8))))))
theorem wM (x0 x1 x2 x6 x7 x8 x9 x10 x11 x67:LV) {R:LV.RT} {st:aa} (h:qP x0 x1 x2 x6 x7 x8 x9 x10 x11 x67 R st):oo x0 x1 x2 x6 x7 x8 x9 x10 x11 x67 R st:=
 pz tf tg h
def JA (x6 x7:LV) (R:LV.RT) (st:aa):Prop:=
 bd (ldA st x6 4) fun v0=>bd (ldA st x7 2) fun v1=>R (LV.tup [v0,v1]) st
theorem JB (x6 x7:LV) {R:LV.RT} {st:aa} (h:JA x6 x7 R st):Dg x6 x7 R st:=
 pz tf tg h
def JC (x6 x7:LV) (R:LV.RT) (st:aa):Prop:=
 bd (ldA st x6 4) fun v0=>bd (ldA st x7 2) fun v1=>R (LV.tup [v0,v1]) st
theorem JD (x6 x7:LV) {R:LV.RT} {st:aa} (h:JC x6 x7 R st):Dh x6 x7 R st:=
 pz tf tg h
def JE (x6 x7:LV) (R:LV.RT) (st:aa):Prop:=
 bd (ldA st x6 4) fun v0=>bd (ldA st x7 2) fun v1=>R (LV.tup [v0,v1]) st
theorem JF (x6 x7:LV) {R:LV.RT} {st:aa} (h:JE x6 x7 R st):Di x6 x7 R st:=
 pz tf tg h
def Oj (a0 a1:LV) (R:LV.RT) (st:aa):Prop:=
 bd (bJ a0) fun v0=>bd (ak BinOp.geq a1 v0) fun v1=>al v1 (R (i64 (-1)) st) (bd (cv a0 a1) fun v2=>bd (gg IntKind.i64 v2) fun v3=>R v3 st)
theorem Po (a0 a1:LV) {R:LV.RT} {st:aa} (h:Oj a0 a1 R st):LZ 243 [a0,a1] st R:=
 cz [] [] [.tmp 4] Tryz.func243 h
def mx (x1 x4 x5:LV) (R:LV.RT) (st:aa):Prop:=LTg Tryz.prog (kindOf false) [.cell 4 123] (bg Tryz.f77 2) [] R (.aN::x1::.aN::.aN::x4::x5::(LV.jk 49 [])) st
def qo (x0 x1 x4 x5:LV) (R:LV.RT) (st:aa):Prop:=LTg Tryz.prog (kindOf false) [.cell 4 123] (bg Tryz.f77 3) [] R (x0::x1::.aN::.aN::x4::x5::(LV.jk 49 [])) st
def MI:List Nat:=(LV.gx 2 53 [4,5])
def MJ:List (Nat × List Nat):=[(0,[0,2,3,6,7,8,9,10,11,12,13,14,15,16,17,18,19,20,21,22,23,24,25,26,27,28,29,30,31,32,33,34,35,36,37,38,39,40,41,42,43,44,45,46,47,48,49,50,51,52,53,54])]
def w77 (a0 a1:LV) (R:LV.RT) (st:aa):Prop:=
 nw st [i64 0,i64 0] fun v0 eQ=>qo a0 a1 v0 a1 R eQ
theorem c77 (a0 a1:LV) {R:LV.RT} {st:aa} (h:w77 a0 a1 R st):LZ 77 [a0,a1] st R:=
 ax.ofE (gl:=MI) (cuts:=MJ) (rc:=[]) (n:=3000) aG Tryz.func77 (show Tryz.f77.body=some (ba Tryz.f77) by kernel_rfl) (by kernel_rfl) (show Tryz.f77.results.toList=[.cell 4 123] by kernel_rfl) (by kernel_rfl) h
def KQ (x1 x4 x5:LV) (R:LV.RT) (st:aa):Prop:=
 bd (ak BinOp.eql x5 x1) fun v0=>al v0
 (bd (aL (ao (ay [(0,1),(1,1)]) [i64 0,i64 0] [(0,x1),(1,i64 4)])) fun v1=>bd2 (lmk (stV st 2 x4 v1)) fun _ gE=>bd (ldA gE x4 2) fun v4=>R v4 gE)
 (bd (ak BinOp.sub x5 x1) fun v5=>bd (ak BinOp.gtr v5 (i64 20)) fun v6=>al v6
 (bd (aL (ao (ay [(0,1),(1,1)]) [i64 0,i64 0] [(0,x1),(1,i64 7)])) fun v7=>bd2 (lmk (stV st 2 x4 v7)) fun _ gT=>bd (ldA gT x4 2) fun iD=>R iD gT)
 (bd (aL (ao (ay [(0,1),(1,1)]) [i64 0,i64 0] [(0,x5),(1,i64 0)])) fun iF=>bd2 (lmk (stV st 2 x4 iF)) fun _ eQ=>bd (ldA eQ x4 2) fun iN=>R iN eQ))
theorem Ol (x1 x4 x5:LV) {R:LV.RT} {st:aa} (h:KQ x1 x4 x5 R st):mx x1 x4 x5 R st:=
 LTg.atE (gl:=MI) (cuts:=MJ) (rc:=[]) (n:=3000) aG (by kernel_rfl) h
def HK (x0 x1 x4 x5:LV) (R:LV.RT) (st:aa):Prop:=
 bd (bJ x0) fun v0=>bd (ak BinOp.lss x5 v0) fun v1=>al v1
 (bd (cv x0 x5) fun v2=>bd (ak BinOp.geq v2 (LV.int IntKind.u8 97)) fun v3=>al v3
 (bd (cv x0 x5) fun v4=>bd (ak BinOp.leq v4 (LV.int IntKind.u8 122)) fun v5=>al v5 (bd (ak BinOp.add x5 (i64 1)) fun v6=>qo x0 x1 x4 v6 R st)
 (bd (ak BinOp.gtr x5 x1) fun v7=>al v7
 (bd (cv x0 x5) fun v8=>bd (ak BinOp.geq v8 (LV.int IntKind.u8 48)) fun v9=>al v9
 (bd (cv x0 x5) fun eQ=>bd (ak BinOp.leq eQ (LV.int IntKind.u8 57)) fun gE=>al gE (bd (ak BinOp.add x5 (i64 1)) fun gT=>qo x0 x1 x4 gT R st) (mx x1 x4 x5 R st))
 (mx x1 x4 x5 R st))
 (mx x1 x4 x5 R st)))
 (bd (ak BinOp.gtr x5 x1) fun iD=>al iD
 (bd (cv x0 x5) fun iF=>bd (ak BinOp.geq iF (LV.int IntKind.u8 48)) fun iN=>al iN
 (bd (cv x0 x5) fun iS=>bd (ak BinOp.leq iS (LV.int IntKind.u8 57)) fun mK=>al mK (bd (ak BinOp.add x5 (i64 1)) fun nE=>qo x0 x1 x4 nE R st) (mx x1 x4 x5 R st))
 (mx x1 x4 x5 R st))
 (mx x1 x4 x5 R st)))
 (mx x1 x4 x5 R st)
theorem KR (x0 x1 x4 x5:LV) {R:LV.RT} {st:aa} (h:HK x0 x1 x4 x5 R st):qo x0 x1 x4 x5 R st:=
 LTg.atE (gl:=MI) (cuts:=MJ) (rc:=[]) (n:=3000) aG (by kernel_rfl) h
def fZ (x0 x1 x2 x3 x8 x9 x10 x11:LV) (R:LV.RT) (st:aa):Prop:=LTg Tryz.prog (kindOf false) [.cell 8 29,.cell 9 123] (bg Tryz.f244 10) [] R (x0::x1::x2::x3::(LV.jk 4 (x8::x9::x10::x11::(LV.jk 145 [])))) st
def Dk (x0 x1 x2 x3 x8 x9 x10 x11 x40:LV) (R:LV.RT) (st:aa):Prop:=LTg Tryz.prog (kindOf false) [.cell 8 29,.cell 9 123] (bg Tryz.f244 14) [] R (x0::x1::x2::x3::(LV.jk 4 (x8::x9::x10::x11::(LV.jk 28 (x40::(LV.jk 116 [])))))) st
def Dl (x8 x9:LV) (R:LV.RT) (st:aa):Prop:=LTg Tryz.prog (kindOf false) [.cell 8 29,.cell 9 123] (bg Tryz.f244 17) [] R (LV.jk 8 (x8::x9::(LV.jk 147 []))) st
def Dm (x8 x9:LV) (R:LV.RT) (st:aa):Prop:=LTg Tryz.prog (kindOf false) [.cell 8 29,.cell 9 123] (bg Tryz.f244 21) [] R (LV.jk 8 (x8::x9::(LV.jk 147 []))) st
def ka (x0 x1 x2 x3 x8 x9 x10 x11 x13 x15:LV) (R:LV.RT) (st:aa):Prop:=LTg Tryz.prog (kindOf false) [.cell 8 29,.cell 9 123] (bg Tryz.f244 25) [] R (x0::x1::x2::x3::(LV.jk 4 (x8::x9::x10::x11::.aN::x13::.aN::x15::(LV.jk 141 [])))) st
def qQ (x8 x9:LV) (R:LV.RT) (st:aa):Prop:=LTg Tryz.prog (kindOf false) [.cell 8 29,.cell 9 123] (bg Tryz.f244 29) [] R (LV.jk 8 (x8::x9::(LV.jk 147 []))) st
def kb (x0 x1 x2 x3 x8 x9 x10 x11:LV) (R:LV.RT) (st:aa):Prop:=LTg Tryz.prog (kindOf false) [.cell 8 29,.cell 9 123] (bg Tryz.f244 32) [] R (x0::x1::x2::x3::(LV.jk 4 (x8::x9::x10::x11::(LV.jk 145 [])))) st
def wN (x8 x9:LV) (R:LV.RT) (st:aa):Prop:=LTg Tryz.prog (kindOf false) [.cell 8 29,.cell 9 123] (bg Tryz.f244 35) [] R (LV.jk 8 (x8::x9::(LV.jk 147 []))) st
def oq:List Nat:=(LV.gx 4 153 [8,9,10,11])
def ot:List (Nat × List Nat):=[(11,(LV.gx 4 153 [8,9,10,11,40])),(14,(LV.gx 0 157 [8,9])),(18,(LV.gx 0 157 [8,9])),(22,(LV.gx 4 153 [8,9,10,11,13,15])),(26,(LV.gx 0 157 [8,9])),(29,(LV.gx 4 153 [8,9,10,11])),(32,(LV.gx 0 157 [8,9]))]
def Om (a0 a1 a2 a3:LV) (R:LV.RT) (st:aa):Prop:=
 nw st [i64 0,LV.nils,LV.nils,LV.nils] fun v0 oR=>nw oR [i64 0,i64 0] fun v2 rW=>bd (aL (ao (ay [(0,1),(1,1),(2,1),(3,1)]) [i64 0,LV.nils,LV.nils,LV.nils] [(0,i64 7)])) fun v4=>nw rW [i64 0,LV.nils,LV.nils,LV.nils] fun v5 aS=>bd2 (lmk (stV aS 4 v5 v4)) fun _v7 oF=>al a3
 (bd (ad 0 v5) fun v9=>bd2 (lmk (stV oF 1 v9 (i64 8))) fun _ iF=>bd (ak BinOp.add a1 (i64 1)) fun iN=>LZ 243 [a0,iN] iF fun aT eQ=>bd (gg IntKind.i64 (LV.int IntKind.i32 125)) fun bY=>bd (ak BinOp.eql aT bY) fun c7=>al c7
 (bd (ldA eQ v5 4) fun dO=>bd (ak BinOp.add iN (i64 1)) fun lE=>bd (aL (ao (ay [(0,1),(1,1)]) [i64 0,i64 0] [(0,lE),(1,i64 0)])) fun lT=>bd2 (lmk (stV eQ 4 v0 dO)) fun _ iS=>bd2 (lmk (stV iS 2 v2 lT)) fun _ gE=>bd (ldA gE v0 4) fun p7=>bd (ldA gE v2 2) fun p8=>R (LV.tup [p7,p8]) gE)
 (fZ a0 iN a2 a3 v0 v2 v5 (LV.int IntKind.i32 125) R eQ))
 (bd (ak BinOp.add a1 (i64 1)) fun mK=>LZ 243 [a0,mK] oF fun p9 gT=>bd (gg IntKind.i64 (LV.int IntKind.i32 93)) fun tO=>bd (ak BinOp.eql p9 tO) fun v30=>al v30
 (bd (ldA gT v5 4) fun v31=>bd (ak BinOp.add mK (i64 1)) fun v32=>bd (aL (ao (ay [(0,1),(1,1)]) [i64 0,i64 0] [(0,v32),(1,i64 0)])) fun v33=>bd2 (lmk (stV gT 4 v0 v31)) fun _v34 nE=>bd2 (lmk (stV nE 2 v2 v33)) fun _v36 iD=>bd (ldA iD v0 4) fun v38=>bd (ldA iD v2 2) fun v39=>R (LV.tup [v38,v39]) iD)
 (fZ a0 mK a2 a3 v0 v2 v5 (LV.int IntKind.i32 93) R gT))
theorem Pp (a0 a1 a2 a3:LV) {R:LV.RT} {st:aa} (h:Om a0 a1 a2 a3 R st):LZ 244 [a0,a1,a2,a3] st R:=
 cz oq ot [.cell 8 29,.cell 9 123] Tryz.func244 h
def ou (x0 x1 x2 x3 x8 x9 x10 x11:LV) (R:LV.RT) (st:aa):Prop:=
 bd (ad 1 x10) fun v0=>bd (ld1 st v0) fun v1=>bd (bo v1) fun v2=>bd (ak BinOp.eql v2 (i64 16)) fun v3=>al v3
 (bd (ldA st x10 4) fun v4=>bd (aL (ao (ay [(0,1),(1,1)]) [i64 0,i64 0] [(0,x1),(1,i64 3)])) fun v5=>bd2 (lmk (stV st 4 x8 v4)) fun _ gE=>bd2 (lmk (stV gE 2 x9 v5)) fun _ eQ=>bd (ldA eQ x8 4) fun gT=>bd (ldA eQ x9 2) fun iD=>R (LV.tup [gT,iD]) eQ)
 (Dk x0 x1 x2 x3 x8 x9 x10 x11 x3 R st)
theorem qR (x0 x1 x2 x3 x8 x9 x10 x11:LV) {R:LV.RT} {st:aa} (h:ou x0 x1 x2 x3 x8 x9 x10 x11 R st):fZ x0 x1 x2 x3 x8 x9 x10 x11 R st:=
 pz oq ot h
def wO (x0 x1 x2 x3 x8 x9 x10 x11 x40:LV) (R:LV.RT) (st:aa):Prop:=
 al x40
 (LZ 77 [x0,x1] st fun v0 st1=>nw st1 [i64 0,i64 0] fun v2 st3=>bd2 (lmk (stV st3 2 v2 v0)) fun _v4 eQ=>bd (ad 1 v2) fun v6=>bd (ld1 eQ v6) fun v7=>bd (ak BinOp.neq v7 (i64 0)) fun v8=>al v8
 (bd (ldA eQ x10 4) fun v9=>bd (ldA eQ v2 2) fun v10=>bd2 (lmk (stV eQ 4 x8 v9)) fun _v11 aT=>ldA aT v2 2=some v10∧bd2 (lmk (stV aT 2 x9 v10)) fun _v13 p9=>Dl x8 x9 R p9)
 (bd (ad 0 v2) fun v15=>bd (ld1 eQ v15) fun v16=>bd (ob3 (some x1) (some v16) none fun l h m=>cF x0 l h m) fun oF=>bd (ad 2 x10) fun v18=>bd (ld1 eQ v18) fun v19=>bd (bo v19) fun aS=>bd (ak BinOp.gtr aS (i64 0)) fun v21=>al v21
 (bd (ad 2 x10) fun v22=>bd (ld1 eQ v22) fun v23=>bd (ak BinOp.sub aS (i64 1)) fun v24=>bd (aR 1 v23 v24) fun v25=>bd (ld1 eQ v25) fun v26=>bd (bG BinOp.eql oF v26) fun v27=>al v27
 (bd (ldA eQ x10 4) fun v28=>bd (aL (ao (ay [(0,1),(1,1)]) [i64 0,i64 0] [(0,x1),(1,i64 9)])) fun v29=>bd2 (lmk (stV eQ 4 x8 v28)) fun _v30 tO=>bd2 (lmk (stV tO 2 x9 v29)) fun _v32 st33=>Dm x8 x9 R st33)
 (bd (ak BinOp.gtr aS (i64 0)) fun v34=>al v34
 (bd (ad 2 x10) fun v35=>bd (ld1 eQ v35) fun v36=>bd (ak BinOp.sub aS (i64 1)) fun v37=>bd (aR 1 v36 v37) fun v38=>bd (ld1 eQ v38) fun v39=>bd (bG BinOp.lss oF v39) fun v40=>al v40
 (bd (ldA eQ x10 4) fun v41=>bd (aL (ao (ay [(0,1),(1,1)]) [i64 0,i64 0] [(0,x1),(1,i64 4)]))
 fun v42=>bd2 (lmk (stV eQ 4 x8 v41)) fun _v43 st44=>bd2 (lmk (stV st44 2 x9 v42)) fun _v45 oR=>bd (ldA oR x8 4) fun v47=>bd (ldA oR x9 2) fun v48=>R (LV.tup [v47,v48]) oR)
 (bd (ad 0 v2) fun v49=>bd (ld1 eQ v49) fun v50=>LZ 243 [x0,v50] eQ fun v51 st52=>bd (ak BinOp.eql v51 (i64 63)) fun v53=>ka x0 v50 x2 x3 x8 x9 x10 x11 oF v53 R st52))
 (bd (ad 0 v2) fun v54=>bd (ld1 eQ v54) fun v55=>LZ 243 [x0,v55] eQ fun v56 st57=>bd (ak BinOp.eql v56 (i64 63)) fun v58=>ka x0 v55 x2 x3 x8 x9 x10 x11 oF v58 R st57)))
 (bd (ak BinOp.gtr aS (i64 0)) fun v59=>al v59
 (bd (ad 2 x10) fun v60=>bd (ld1 eQ v60) fun v61=>bd (ak BinOp.sub aS (i64 1)) fun v62=>bd (aR 1 v61 v62) fun v63=>bd (ld1 eQ v63) fun v64=>bd (bG BinOp.lss oF v64) fun v65=>al v65
 (bd (ldA eQ x10 4) fun v66=>bd (aL (ao (ay [(0,1),(1,1)]) [i64 0,i64 0] [(0,x1),(1,i64 4)])) fun v67=>bd2 (lmk (stV eQ 4 x8 v66)) fun _v68 st69=>bd2 (lmk (stV st69 2 x9 v67)) fun _v70 rW=>bd (ldA rW x8 4) fun v72=>bd (ldA rW x9 2) fun v73=>R (LV.tup [v72,v73]) rW)
 (bd (ad 0 v2) fun v74=>bd (ld1 eQ v74) fun v75=>LZ 243 [x0,v75] eQ fun v76 st77=>bd (ak BinOp.eql v76 (i64 63)) fun v78=>ka x0 v75 x2 x3 x8 x9 x10 x11 oF v78 R st77))
 (bd (ad 0 v2) fun v79=>bd (ld1 eQ v79) fun v80=>LZ 243 [x0,v80] eQ fun v81 st82=>bd (ak BinOp.eql v81 (i64 63)) fun v83=>ka x0 v80 x2 x3 x8 x9 x10 x11 oF v83 R st82))))
 (bd (ak BinOp.add x2 (i64 1)) fun v84=>LZ 196 [x0,x1,v84] st fun v85 st86=>bd (ai v85 0) fun v87=>bd (ai v85 1) fun v88=>nw st86 [i64 0,LV.nils,LV.nils,LV.nils] fun v89 st90=>nw st90 [i64 0,i64 0] fun bY st92=>bd2 (lmk (stV st92 4 v89 v87)) fun _v93 st94=>bd2 (lmk (stV st94 2 bY v88)) fun _v95 gE=>bd (ad 1 bY) fun v97=>bd (ld1 gE v97) fun v98=>bd (ak BinOp.neq v98 (i64 0)) fun v99=>al v99
 (bd (ldA gE x10 4) fun v100=>bd (ldA gE bY 2) fun c7=>bd2 (lmk (stV gE 4 x8 v100)) fun _v102 mK=>ldA mK bY 2=some c7∧bd2 (lmk (stV mK 2 x9 c7)) fun _v104 dO=>wN x8 x9 R dO)
 (bd (ad 1 x10) fun v106=>bd (ld1 gE v106) fun v107=>bd (ldA gE v89 4) fun v108=>bd2 (aP gE 1 (ao (fun i=>some (i*4,4)) (List.replicate 1 [i64 0,LV.nils,LV.nils,LV.nils]).flatten [(0,v108)])) fun v109 lE=>bd2 (ar lE 4 80 Md.rw v107 v109) fun v111 lT=>bd (ad 1 x10) fun v113=>bd2 (lmk (stV lT 1 v113 v111)) fun _v114 nE=>bd (ad 0 bY) fun v116=>bd (ld1 nE v116) fun gT=>LZ 243 [x0,gT] nE fun v118 iD=>bd (gg IntKind.i64 x11) fun v120=>bd (ak BinOp.eql v118 v120) fun v121=>al v121
 (bd (ldA iD x10 4) fun v122=>bd (ak BinOp.add gT (i64 1)) fun v123=>bd (aL (ao (ay [(0,1),(1,1)]) [i64 0,i64 0] [(0,v123),(1,i64 0)])) fun v124=>bd2 (lmk (stV iD 4 x8 v122)) fun _v125 p7=>bd2 (lmk (stV p7 2 x9 v124)) fun _v127 iF=>bd (ldA iF x8 4) fun v129=>bd (ldA iF x9 2) fun v130=>R (LV.tup [v129,v130]) iF)
 (LZ 243 [x0,gT] iD fun v131 iN=>bd (ak BinOp.neq v131 (i64 44)) fun v133=>al v133
 (bd (ldA iN x10 4) fun v134=>bd (aL (ao (ay [(0,1),(1,1)]) [i64 0,i64 0] [(0,gT),(1,i64 4)]))
 fun v135=>bd2 (lmk (stV iN 4 x8 v134)) fun _v136 p8=>bd2 (lmk (stV p8 2 x9 v135)) fun _v138 iS=>bd (ldA iS x8 4) fun v140=>bd (ldA iS x9 2) fun v141=>R (LV.tup [v140,v141]) iS)
 (bd (ak BinOp.add gT (i64 1)) fun v142=>fZ x0 v142 x2 x3 x8 x9 x10 x11 R iN))))
theorem Dn (x0 x1 x2 x3 x8 x9 x10 x11 x40:LV) {R:LV.RT} {st:aa} (h:wO x0 x1 x2 x3 x8 x9 x10 x11 x40 R st):Dk x0 x1 x2 x3 x8 x9 x10 x11 x40 R st:=
 pz oq ot h
def JG (x8 x9:LV) (R:LV.RT) (st:aa):Prop:=
 bd (ldA st x8 4) fun v0=>bd (ldA st x9 2) fun v1=>R (LV.tup [v0,v1]) st
theorem JH (x8 x9:LV) {R:LV.RT} {st:aa} (h:JG x8 x9 R st):Dl x8 x9 R st:=
 pz oq ot h
def JI (x8 x9:LV) (R:LV.RT) (st:aa):Prop:=
 bd (ldA st x8 4) fun v0=>bd (ldA st x9 2) fun v1=>R (LV.tup [v0,v1]) st
theorem JJ (x8 x9:LV) {R:LV.RT} {st:aa} (h:JI x8 x9 R st):Dm x8 x9 R st:=
 pz oq ot h
def wP (x0 x1 x2 x3 x8 x9 x10 x11 x13 x15:LV) (R:LV.RT) (st:aa):Prop:=
 al x15
 (bd (ak BinOp.add x1 (i64 1)) fun v0=>LZ 243 [x0,v0] st fun v1 iD=>bd (ak BinOp.neq v1 (i64 58)) fun v3=>al v3
 (bd (ldA iD x10 4) fun v4=>bd (aL (ao (ay [(0,1),(1,1)]) [i64 0,i64 0] [(0,v0),(1,i64 4)])) fun v5=>bd2 (lmk (stV iD 4 x8 v4)) fun _v6 dO=>bd2 (lmk (stV dO 2 x9 v5)) fun _v8 lE=>qQ x8 x9 R lE)
 (bd (ak BinOp.add v0 (i64 1)) fun lT=>bd (ad 2 x10) fun p7=>bd (ld1 iD p7) fun p8=>bd2 (aP iD 1 (ao (fun i=>some (i*1,1)) (List.replicate 1 [LV.str []]).flatten [(0,x13)])) fun p9 iF=>bd2 (ar iF 1 16 Md.rw p8 p9) fun tO iN=>bd (ad 2 x10) fun v17=>bd2 (lmk (stV iN 1 v17 tO)) fun _v18 gE=>bd (ad 3 x10) fun v20=>bd (ld1 gE v20) fun v21=>bd2 (aP gE 1 (ao (fun i=>some (i*1,1)) (List.replicate 1 [LV.bool false]).flatten [(0,x15)])) fun v22 iS=>bd2 (ar iS 1 1 Md.rw v21 v22) fun v24 mK=>bd (ad 3 x10) fun v26=>bd2 (lmk (stV mK 1 v26 v24)) fun _v27 nE=>kb x0 lT x2 x3 x8 x9 x10 x11 R nE))
 (LZ 243 [x0,x1] st fun v29 eQ=>bd (ak BinOp.neq v29 (i64 58)) fun v31=>al v31
 (bd (ldA eQ x10 4) fun v32=>bd (aL (ao (ay [(0,1),(1,1)]) [i64 0,i64 0] [(0,x1),(1,i64 4)])) fun v33=>bd2 (lmk (stV eQ 4 x8 v32)) fun _v34 oF=>bd2 (lmk (stV oF 2 x9 v33)) fun _v36 oR=>qQ x8 x9 R oR)
 (bd (ak BinOp.add x1 (i64 1)) fun v38=>bd (ad 2 x10) fun v39=>bd (ld1 eQ v39) fun v40=>bd2 (aP eQ 1 (ao (fun i=>some (i*1,1)) (List.replicate 1 [LV.str []]).flatten [(0,x13)])) fun v41 rW=>bd2 (ar rW 1 16 Md.rw v40 v41) fun v43 aS=>bd (ad 2 x10) fun v45=>bd2 (lmk (stV aS 1 v45 v43)) fun _v46 gT=>bd (ad 3 x10) fun v48=>bd (ld1 gT v48) fun v49=>bd2 (aP gT 1 (ao (fun i=>some (i*1,1)) (List.replicate 1 [LV.bool false]).flatten [(0,x15)])) fun v50 aT=>bd2 (ar aT 1 1 Md.rw v49 v50) fun v52 bY=>bd (ad 3 x10) fun v54=>bd2 (lmk (stV bY 1 v54 v52)) fun _v55 c7=>kb x0 v38 x2 x3 x8 x9 x10 x11 R c7))
theorem JK (x0 x1 x2 x3 x8 x9 x10 x11 x13 x15:LV) {R:LV.RT} {st:aa} (h:wP x0 x1 x2 x3 x8 x9 x10 x11 x13 x15 R st):ka x0 x1 x2 x3 x8 x9 x10 x11 x13 x15 R st:=
 pz oq ot h
def JL (x8 x9:LV) (R:LV.RT) (st:aa):Prop:=
 bd (ldA st x8 4) fun v0=>bd (ldA st x9 2) fun v1=>R (LV.tup [v0,v1]) st
theorem JM (x8 x9:LV) {R:LV.RT} {st:aa} (h:JL x8 x9 R st):qQ x8 x9 R st:=
 pz oq ot h
def Dq (x0 x1 x2 x3 x8 x9 x10 x11:LV) (R:LV.RT) (st:aa):Prop:=
 bd (ak BinOp.add x2 (i64 1)) fun v0=>LZ 196 [x0,x1,v0] st fun v1 c7=>bd (ai v1 0) fun v3=>bd (ai v1 1) fun v4=>nw c7 [i64 0,LV.nils,LV.nils,LV.nils] fun v5 dO=>nw dO [i64 0,i64 0] fun v7 lE=>bd2 (lmk (stV lE 4 v5 v3)) fun _v9 nE=>bd2 (lmk (stV nE 2 v7 v4)) fun _ eQ=>bd (ad 1 v7) fun lT=>bd (ld1 eQ lT) fun p7=>bd (ak BinOp.neq p7 (i64 0)) fun p8=>al p8
 (bd (ldA eQ x10 4) fun p9=>bd (ldA eQ v7 2) fun bY=>bd2 (lmk (stV eQ 4 x8 p9)) fun _ iN=>ldA iN v7 2=some bY∧bd2 (lmk (stV iN 2 x9 bY)) fun _ oF=>wN x8 x9 R oF)
 (bd (ad 1 x10) fun tO=>bd (ld1 eQ tO) fun v23=>bd (ldA eQ v5 4) fun v24=>bd2 (aP eQ 1 (ao (fun i=>some (i*4,4)) (List.replicate 1 [i64 0,LV.nils,LV.nils,LV.nils]).flatten [(0,v24)])) fun v25 oR=>bd2 (ar oR 4 80 Md.rw v23 v25) fun v27 rW=>bd (ad 1 x10) fun v29=>bd2 (lmk (stV rW 1 v29 v27)) fun _v30 iS=>bd (ad 0 v7) fun v32=>bd (ld1 iS v32) fun mK=>LZ 243 [x0,mK] iS fun v34 gE=>bd (gg IntKind.i64 x11) fun v36=>bd (ak BinOp.eql v34 v36) fun v37=>al v37
 (bd (ldA gE x10 4) fun v38=>bd (ak BinOp.add mK (i64 1)) fun v39=>bd (aL (ao (ay [(0,1),(1,1)]) [i64 0,i64 0] [(0,v39),(1,i64 0)])) fun v40=>bd2 (lmk (stV gE 4 x8 v38)) fun _v41 aS=>bd2 (lmk (stV aS 2 x9 v40)) fun _v43 gT=>bd (ldA gT x8 4) fun v45=>bd (ldA gT x9 2) fun v46=>R (LV.tup [v45,v46]) gT)
 (LZ 243 [x0,mK] gE fun v47 iD=>bd (ak BinOp.neq v47 (i64 44)) fun v49=>al v49
 (bd (ldA iD x10 4) fun v50=>bd (aL (ao (ay [(0,1),(1,1)]) [i64 0,i64 0] [(0,mK),(1,i64 4)])) fun v51=>bd2 (lmk (stV iD 4 x8 v50)) fun _v52 aT=>bd2 (lmk (stV aT 2 x9 v51)) fun _v54 iF=>bd (ldA iF x8 4) fun v56=>bd (ldA iF x9 2) fun v57=>R (LV.tup [v56,v57]) iF)
 (bd (ak BinOp.add mK (i64 1)) fun v58=>fZ x0 v58 x2 x3 x8 x9 x10 x11 R iD)))
theorem JN (x0 x1 x2 x3 x8 x9 x10 x11:LV) {R:LV.RT} {st:aa} (h:Dq x0 x1 x2 x3 x8 x9 x10 x11 R st):kb x0 x1 x2 x3 x8 x9 x10 x11 R st:=
 pz oq ot h
def JO (x8 x9:LV) (R:LV.RT) (st:aa):Prop:=
 bd (ldA st x8 4) fun v0=>bd (ldA st x9 2) fun v1=>R (LV.tup [v0,v1]) st
theorem Dr (x8 x9:LV) {R:LV.RT} {st:aa} (h:JO x8 x9 R st):wN x8 x9 R st:=
 pz oq ot h
end Go.Proofs.YtknegckgmklnhaaGreatDoor
