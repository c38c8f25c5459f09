/- Parts of the proof. -/
import Derived.Test.YtknegckgmklnhaaGreatDoorVbW
namespace Go.Proofs.YtknegckgmklnhaaGreatDoor
open Go Go.CP
set_option maxRecDepth 100000
def Ho (x2 x3:LV) (R:LV.RT) (st:aa):Prop:=LTg Tryz.prog (kindOf false) [.cell 2 29,.cell 3 123] (aW Tryz.f161 5) [] R (.aL::.aL::x2::x3::(LV.jk 28 [])) st
def vZ (x2 x3:LV) (R:LV.RT) (st:aa):Prop:=LTg Tryz.prog (kindOf false) [.cell 2 29,.cell 3 123] (aW Tryz.f161 6) [] R (.aL::.aL::x2::x3::(LV.jk 28 [])) st
def Hp:List (Nat × List Nat):=[(5,(LV.gx 0 32 [2,3])),(6,(LV.gx 0 32 [2,3]))]
def NL (a0:LV) (R:LV.RT) (st:aa):Prop:=
 nw st [i64 0,LV.nils,LV.nils,LV.nils] fun v0 p9=>nw p9 [i64 0,i64 0] fun v2 bY=>bd (bK a0) fun v4=>bd (ah BinOp.gtr v4 (i64 4096)) fun v5=>ak v5
 (bd (aP (ao (aA [(0,1),(1,1),(2,1),(3,1)]) [i64 0,LV.nils,LV.nils,LV.nils] [])) fun v6=>bd (aP (ao (aA [(0,1),(1,1)]) [i64 0,i64 0] [(0,i64 0),(1,i64 3)])) fun v7=>bd2 (lmk (stV bY 4 v0 v6)) fun _v8 tO=>bd2 (lmk (stV tO 2 v2 v7)) fun _ gT=>bd (ldA gT v0 4) fun v12=>bd (ldA gT v2 2) fun v13=>R (LV.tup [v12,v13]) gT)
 (LZ 196 [a0,i64 0,i64 0] bY fun dO iS=>bd (aj dO 0) fun v16=>bd (aj dO 1) fun v17=>nw iS [i64 0,LV.nils,LV.nils,LV.nils] fun mK nE=>nw nE [i64 0,i64 0] fun gE oF=>bd2 (lmk (stV oF 4 mK v16)) fun _v22 oR=>bd2 (lmk (stV oR 2 gE v17)) fun _v24 eQ=>bd (ad 1 gE) fun v26=>bd (ld1 eQ v26) fun v27=>bd (ah BinOp.eql v27 (i64 0)) fun v28=>ak v28
 (bd (ad 0 gE) fun v29=>bd (ld1 eQ v29) fun v30=>bd (bK a0) fun v31=>bd (ah BinOp.lss v30 v31) fun v32=>ak v32
 (bd (aP (ao (aA [(0,1),(1,1),(2,1),(3,1)]) [i64 0,LV.nils,LV.nils,LV.nils] [])) fun v33=>bd (ad 0 gE) fun lE=>bd (ld1 eQ lE) fun lT=>bd (aP (ao (aA [(0,1),(1,1)]) [i64 0,i64 0] [(0,lT),(1,i64 4)])) fun v36=>bd2 (lmk (stV eQ 4 v0 v33)) fun _v37 iD=>ld1 iD lE=some lT∧bd2 (lmk (stV iD 2 v2 v36)) fun _v39 rW=>Ho v0 v2 R rW)
 (bd (ldA eQ mK 4) fun v41=>bd (ldA eQ gE 2) fun p7=>bd2 (lmk (stV eQ 4 v0 v41)) fun _v43 iF=>ldA iF gE 2=some p7∧bd2 (lmk (stV iF 2 v2 p7)) fun _v45 aS=>vZ v0 v2 R aS))
 (bd (ldA eQ mK 4) fun v47=>bd (ldA eQ gE 2) fun p8=>bd2 (lmk (stV eQ 4 v0 v47)) fun _v49 iN=>ldA iN gE 2=some p8∧bd2 (lmk (stV iN 2 v2 p8)) fun _v51 aT=>vZ v0 v2 R aT))
theorem OL (a0:LV) {R:LV.RT} {st:aa} (h:NL a0 R st):LZ 161 [a0] st R:=
 cz [] Hp [.cell 2 29,.cell 3 123] Tryz.func161 h
def LW (x2 x3:LV) (R:LV.RT) (st:aa):Prop:=
 bd (ldA st x2 4) fun v0=>bd (ldA st x3 2) fun v1=>R (LV.tup [v0,v1]) st
theorem LY (x2 x3:LV) {R:LV.RT} {st:aa} (h:LW x2 x3 R st):Ho x2 x3 R st:=
 pz [] Hp h
def L1 (x2 x3:LV) (R:LV.RT) (st:aa):Prop:=
 bd (ldA st x2 4) fun v0=>bd (ldA st x3 2) fun v1=>R (LV.tup [v0,v1]) st
theorem L2 (x2 x3:LV) {R:LV.RT} {st:aa} (h:L1 x2 x3 R st):vZ x2 x3 R st:=
 pz [] Hp h
def sD (x0 x1 x2 x6 x7 x8 x9 x10 x11:LV) (R:LV.RT) (st:aa):Prop:=LTg Tryz.prog (kindOf false) [.cell 6 29,.cell 7 123] (aW Tryz.f196 9) [] R (x0::x1::x2::(LV.jk 3 (x6::x7::x8::x9::x10::x11::(LV.jk 125 [])))) st
def qK (x0 x1 x2 x6 x7 x8 x9 x10 x11:LV) (R:LV.RT) (st:aa):Prop:=LTg Tryz.prog (kindOf false) [.cell 6 29,.cell 7 123] (aW Tryz.f196 14) [] R (x0::x1::x2::(LV.jk 3 (x6::x7::x8::x9::x10::x11::(LV.jk 125 [])))) st
def oe (x0 x1 x2 x6 x7 x8 x9 x10 x11 x67:LV) (R:LV.RT) (st:aa):Prop:=LTg Tryz.prog (kindOf false) [.cell 6 29,.cell 7 123] (aW Tryz.f196 15) [] R (x0::x1::x2::(LV.jk 3 (x6::x7::x8::x9::x10::x11::(LV.jk 55 (x67::(LV.jk 69 [])))))) st
def CV (x6 x7:LV) (R:LV.RT) (st:aa):Prop:=LTg Tryz.prog (kindOf false) [.cell 6 29,.cell 7 123] (aW Tryz.f196 26) [] R (LV.jk 6 (x6::x7::(LV.jk 129 []))) st
def CW (x6 x7:LV) (R:LV.RT) (st:aa):Prop:=LTg Tryz.prog (kindOf false) [.cell 6 29,.cell 7 123] (aW Tryz.f196 28) [] R (LV.jk 6 (x6::x7::(LV.jk 129 []))) st
def CX (x6 x7:LV) (R:LV.RT) (st:aa):Prop:=LTg Tryz.prog (kindOf false) [.cell 6 29,.cell 7 123] (aW Tryz.f196 29) [] R (LV.jk 6 (x6::x7::(LV.jk 129 []))) st
def sE:List Nat:=(LV.gx 3 134 [6,7,8,9,10,11])
def sF:List (Nat × List Nat):=[(11,(LV.gx 3 134 [6,7,8,9,10,11,67])),(21,(LV.gx 0 137 [6,7])),(23,(LV.gx 0 137 [6,7])),(24,(LV.gx 0 137 [6,7]))]
def L3 (a0 a1 a2:LV) (R:LV.RT) (st:aa):Prop:=
 nw st [i64 0,LV.nils,LV.nils,LV.nils] fun v0 dO=>nw dO [i64 0,i64 0] fun v2 aS=>bd (ah BinOp.geq a2 (i64 8)) fun v4=>ak v4
 (bd (aP (ao (aA [(0,1),(1,1),(2,1),(3,1)]) [i64 0,LV.nils,LV.nils,LV.nils] [])) fun v5=>bd (aP (ao (aA [(0,1),(1,1)]) [i64 0,i64 0] [(0,a1),(1,i64 3)])) fun v6=>bd2 (lmk (stV aS 4 v0 v5)) fun _v7 lE=>bd2 (lmk (stV lE 2 v2 v6)) fun _v9 eQ=>bd (ldA eQ v0 4) fun lT=>bd (ldA eQ v2 2) fun p7=>R (LV.tup [lT,p7]) eQ)
 (LZ 243 [a0,a1] aS fun p8 iD=>bd (ah BinOp.eql p8 (i64 91)) fun p9=>ak p9
 (LZ 243 [a0,a1] iD fun tO iN=>bd (ah BinOp.eql tO (i64 123)) fun v18=>LZ 244 [a0,a1,a2,v18] iN fun aT iS=>bd (aj aT 0) fun v21=>bd (aj aT 1) fun v22=>bd2 (lmk (stV iS 4 v0 v21)) fun _v23 mK=>bd2 (lmk (stV mK 2 v2 v22)) fun _v25 gE=>bd (ldA gE v0 4) fun v27=>bd (ldA gE v2 2) fun v28=>R (LV.tup [v27,v28]) gE)
 (LZ 243 [a0,a1] iD fun v29 iF=>bd (ah BinOp.eql v29 (i64 123)) fun v31=>ak v31
 (LZ 243 [a0,a1] iF fun v32 nE=>bd (ah BinOp.eql v32 (i64 123)) fun v34=>LZ 244 [a0,a1,a2,v34] nE fun bY oF=>bd (aj bY 0) fun v37=>bd (aj bY 1) fun v38=>bd2 (lmk (stV oF 4 v0 v37)) fun _v39 oR=>bd2 (lmk (stV oR 2 v2 v38)) fun _v41 gT=>bd (ldA gT v0 4) fun v43=>bd (ldA gT v2 2) fun v44=>R (LV.tup [v43,v44]) gT)
 (bd2
 (aN iF 7
 (ao (fun i=>some (i*1,1)) (List.replicate 7 [LV.str []]).flatten
 [(0,LV.str [97,110,121]),(1,LV.str [98,111,111,108]),(2,LV.str [105,110,116]),(3,LV.str [112,111,105,110,116]),(4,LV.str [116,101,120,116]),
 (5,LV.str [108,105,115,116]),(6,LV.str [109,97,112])]))
 fun v45 rW=>sD a0 a1 a2 v0 v2 v45 (i64 0) (i64 0) (LV.tup []) R rW)))
theorem c196 (a0 a1 a2:LV) {R:LV.RT} {st:aa} (h:L3 a0 a1 a2 R st):LZ 196 [a0,a1,a2] st R:=
 cz sE sF [.cell 6 29,.cell 7 123] Tryz.func196 h
def A8 (x0 x1 x2 x6 x7 x8 x9 x10:LV) (_x11:LV) (R:LV.RT) (st:aa):Prop:=
 bd (bg x8) fun v0=>bd (ah BinOp.lss x10 v0) fun v1=>ak v1 (qK x0 x1 x2 x6 x7 x8 x9 x10 (i64 0) R st)
 (bd (aP (ao (aA [(0,1),(1,1),(2,1),(3,1)]) [i64 0,LV.nils,LV.nils,LV.nils] [])) fun v2=>bd (ah BinOp.add x1 x9) fun v3=>bd (aP (ao (aA [(0,1),(1,1)]) [i64 0,i64 0] [(0,v3),(1,i64 4)])) fun v4=>bd2 (lmk (stV st 4 x6 v2)) fun _ gE=>bd2 (lmk (stV gE 2 x7 v4)) fun _ eQ=>bd (ldA eQ x6 4) fun v9=>bd (ldA eQ x7 2) fun gT=>R (LV.tup [v9,gT]) eQ)
theorem Hq (x0 x1 x2 x6 x7 x8 x9 x10 x11:LV) {R:LV.RT} {st:aa} (h:A8 x0 x1 x2 x6 x7 x8 x9 x10 x11 R st):sD x0 x1 x2 x6 x7 x8 x9 x10 x11 R st:=
 pz sE sF h
def wa (x0 x1 x2 x6 x7 x8 x9 x10 x11:LV) (R:LV.RT) (st:aa):Prop:=
 bd (aK 1 x8 x10) fun v0=>bd (ld1 st v0) fun v1=>bd (bK v1) fun v2=>bd (ah BinOp.lss x11 v2) fun v3=>ak v3
 (bd (ah BinOp.add x1 x11) fun v4=>bd (aK 1 x8 x10) fun v5=>bd (ld1 st v5) fun v6=>bd (cA v6 x11) fun v7=>bd (fY IntKind.i64 v7) fun v8=>LZ 243 [x0,v4] st fun v9 eQ=>ld1 eQ v5=some v6∧bd (ah BinOp.eql v9 v8) fun gE=>oe x0 x1 x2 x6 x7 x8 x9 x10 x11 gE R eQ)
 (oe x0 x1 x2 x6 x7 x8 x9 x10 x11 (LV.bool false) R st)
theorem CY (x0 x1 x2 x6 x7 x8 x9 x10 x11:LV) {R:LV.RT} {st:aa} (h:wa x0 x1 x2 x6 x7 x8 x9 x10 x11 R st):qK x0 x1 x2 x6 x7 x8 x9 x10 x11 R st:=
 pz sE sF h
def qL (x0 x1 x2 x6 x7 x8 x9 x10 x11 x67:LV) (R:LV.RT) (st:aa):Prop:=
 ak x67 (bd (ah BinOp.add x11 (i64 1)) fun v0=>qK x0 x1 x2 x6 x7 x8 x9 x10 v0 R st)
 (bd (gF [x9,x11]) fun v1=>bd (aK 1 x8 x10) fun v2=>bd (ld1 st v2) fun v3=>bd (bK v3) fun v4=>bd (ah BinOp.lss x11 v4) fun v5=>ak v5 (bd (ah BinOp.add x10 (i64 1)) fun v6=>sD x0 x1 x2 x6 x7 x8 v1 v6 x11 R st)
 (bd (ah BinOp.lss x10 (i64 5)) fun v7=>ak v7
 (bd (aP (ao (aA [(0,1),(1,1),(2,1),(3,1)]) [i64 0,LV.nils,LV.nils,LV.nils] [(0,x10)])) fun v8=>bd (ah BinOp.add x1 x11) fun v9=>bd (aP (ao (aA [(0,1),(1,1)]) [i64 0,i64 0] [(0,v9),(1,i64 0)])) fun v10=>bd2 (lmk (stV st 4 x6 v8)) fun _v11 oR=>bd2 (lmk (stV oR 2 x7 v10)) fun _v13 gT=>bd (ldA gT x6 4) fun v15=>bd (ldA gT x7 2) fun v16=>R (LV.tup [v15,v16]) gT)
 (bd (ah BinOp.add x1 x11) fun v17=>LZ 243 [x0,v17] st fun v18 iN=>bd (ah BinOp.neq v18 (i64 40)) fun v20=>ak v20
 (bd (aP (ao (aA [(0,1),(1,1),(2,1),(3,1)]) [i64 0,LV.nils,LV.nils,LV.nils] [])) fun v21=>bd (ah BinOp.add x1 x11) fun v22=>bd (aP (ao (aA [(0,1),(1,1)]) [i64 0,i64 0] [(0,v22),(1,i64 4)])) fun v23=>bd2 (lmk (stV iN 4 x6 v21)) fun _v24 rW=>bd2 (lmk (stV rW 2 x7 v23)) fun _v26 iD=>bd (ldA iD x6 4) fun v28=>bd (ldA iD x7 2) fun v29=>R (LV.tup [v28,v29]) iD)
 (bd (ah BinOp.add x1 x11) fun v30=>bd (ah BinOp.add v30 (i64 1)) fun v31=>bd (ah BinOp.add x2 (i64 1)) fun v32=>LZ 196 [x0,v31,v32] iN fun tO aS=>bd (aj tO 0) fun v35=>bd (aj tO 1) fun v36=>nw aS [i64 0,LV.nils,LV.nils,LV.nils] fun v37 aT=>nw aT [i64 0,i64 0] fun iF bY=>bd2 (lmk (stV bY 4 v37 v35)) fun _v41 dO=>bd2 (lmk (stV dO 2 iF v36)) fun _v43 eQ=>bd (ad 1 iF) fun v45=>bd (ld1 eQ v45) fun v46=>bd (ah BinOp.neq v46 (i64 0)) fun v47=>ak v47
 (bd (aP (ao (aA [(0,1),(1,1),(2,1),(3,1)]) [i64 0,LV.nils,LV.nils,LV.nils] [])) fun v48=>bd (ldA eQ iF 2) fun v49=>bd2 (lmk (stV eQ 4 x6 v48)) fun _v50 iS=>ldA iS iF 2=some v49∧bd2 (lmk (stV iS 2 x7 v49)) fun _v52 lE=>CV x6 x7 R lE)
 (bd (ad 0 iF) fun v54=>bd (ld1 eQ v54) fun v55=>LZ 243 [x0,v55] eQ fun v56 gE=>bd (ah BinOp.neq v56 (i64 41)) fun v58=>ak v58
 (bd (aP (ao (aA [(0,1),(1,1),(2,1),(3,1)]) [i64 0,LV.nils,LV.nils,LV.nils] [])) fun v59=>bd (ad 0 iF) fun v60=>bd (ld1 gE v60) fun v61=>bd (aP (ao (aA [(0,1),(1,1)]) [i64 0,i64 0] [(0,v61),(1,i64 4)]))
 fun v62=>bd2 (lmk (stV gE 4 x6 v59)) fun _v63 mK=>ld1 mK v60=some v61∧bd2 (lmk (stV mK 2 x7 v62)) fun _v65 lT=>CW x6 x7 R lT)
 (bd (ldA gE v37 4) fun v67=>bd (ad 0 iF) fun p7=>bd (ld1 gE p7) fun p8=>bd (ah BinOp.add p8 (i64 1)) fun v70=>bd (aP (ao (aA [(0,1),(1,1)]) [i64 0,i64 0] [(0,v70),(1,i64 0)]))
 fun v71=>bd2
 (aN gE 1
 (ao (fun i=>some (i*4,4)) (List.replicate 1 [i64 0,LV.nils,LV.nils,LV.nils]).flatten
 [(0,v67)]))
 fun v72 nE=>ld1 nE p7=some p8∧
 bd
 (aP
 (ao (aA [(0,1),(1,1),(2,1),(3,1)]) [i64 0,LV.nils,LV.nils,LV.nils]
 [(0,x10),(1,v72)]))
 fun v74=>bd2 (lmk (stV nE 4 x6 v74)) fun _v75 oF=>ld1 oF p7=some p8∧bd2 (lmk (stV oF 2 x7 v71)) fun _v77 p9=>CX x6 x7 R p9))))))
theorem wb (x0 x1 x2 x6 x7 x8 x9 x10 x11 x67:LV) {R:LV.RT} {st:aa} (h:qL x0 x1 x2 x6 x7 x8 x9 x10 x11 x67 R st):oe x0 x1 x2 x6 x7 x8 x9 x10 x11 x67 R st:=
 pz sE sF h
def I5 (x6 x7:LV) (R:LV.RT) (st:aa):Prop:=
 bd (ldA st x6 4) fun v0=>bd (ldA st x7 2) fun v1=>R (LV.tup [v0,v1]) st
theorem I6 (x6 x7:LV) {R:LV.RT} {st:aa} (h:I5 x6 x7 R st):CV x6 x7 R st:=
 pz sE sF h
def I7 (x6 x7:LV) (R:LV.RT) (st:aa):Prop:=
 bd (ldA st x6 4) fun v0=>bd (ldA st x7 2) fun v1=>R (LV.tup [v0,v1]) st
theorem I8 (x6 x7:LV) {R:LV.RT} {st:aa} (h:I7 x6 x7 R st):CW x6 x7 R st:=
 pz sE sF h
def I9 (x6 x7:LV) (R:LV.RT) (st:aa):Prop:=
 bd (ldA st x6 4) fun v0=>bd (ldA st x7 2) fun v1=>R (LV.tup [v0,v1]) st
theorem Ja (x6 x7:LV) {R:LV.RT} {st:aa} (h:I9 x6 x7 R st):CX x6 x7 R st:=
 pz sE sF h
def NM (a0 a1:LV) (R:LV.RT) (st:aa):Prop:=
 bd (bK a0) fun v0=>bd (ah BinOp.geq a1 v0) fun v1=>ak v1 (R (i64 (-1)) st) (bd (cA a0 a1) fun v2=>bd (fY IntKind.i64 v2) fun v3=>R v3 st)
theorem OM (a0 a1:LV) {R:LV.RT} {st:aa} (h:NM a0 a1 R st):LZ 243 [a0,a1] st R:=
 cz [] [] [.tmp 4] Tryz.func243 h
def mi (x1 x4 x5:LV) (R:LV.RT) (st:aa):Prop:=LTg Tryz.prog (kindOf false) [.cell 4 123] (aW Tryz.f77 2) [] R (.aL::x1::.aL::.aL::x4::x5::(LV.jk 49 [])) st
def qk (x0 x1 x4 x5:LV) (R:LV.RT) (st:aa):Prop:=LTg Tryz.prog (kindOf false) [.cell 4 123] (aW Tryz.f77 3) [] R (x0::x1::.aL::.aL::x4::x5::(LV.jk 49 [])) st
def L4:List Nat:=(LV.gx 2 53 [4,5])
def L5:List (Nat × List Nat):=[(0,[0,2,3,6,7,8,9,10,11,12,13,14,15,16,17,18,19,20,21,22,23,24,25,26,27,28,29,30,31,32,33,34,35,36,37,38,39,40,41,42,43,44,45,46,47,48,49,50,51,52,53,54])]
def w77 (a0 a1:LV) (R:LV.RT) (st:aa):Prop:=
 nw st [i64 0,i64 0] fun v0 eQ=>qk a0 a1 v0 a1 R eQ
theorem c77 (a0 a1:LV) {R:LV.RT} {st:aa} (h:w77 a0 a1 R st):LZ 77 [a0,a1] st R:=
 az.ofE (gl:=L4) (cuts:=L5) (rc:=[]) (n:=3000) aO Tryz.func77 (show Tryz.f77.body=some (bz Tryz.f77) by kernel_rfl) (by kernel_rfl) (show Tryz.f77.results.toList=[.cell 4 123] by kernel_rfl) (by kernel_rfl) h
def Kr (x1 x4 x5:LV) (R:LV.RT) (st:aa):Prop:=
 bd (ah BinOp.eql x5 x1) fun v0=>ak v0
 (bd (aP (ao (aA [(0,1),(1,1)]) [i64 0,i64 0] [(0,x1),(1,i64 4)])) fun v1=>bd2 (lmk (stV st 2 x4 v1)) fun _ gE=>bd (ldA gE x4 2) fun v4=>R v4 gE)
 (bd (ah BinOp.sub x5 x1) fun v5=>bd (ah BinOp.gtr v5 (i64 20)) fun v6=>ak v6
 (bd (aP (ao (aA [(0,1),(1,1)]) [i64 0,i64 0] [(0,x1),(1,i64 7)])) fun v7=>bd2 (lmk (stV st 2 x4 v7)) fun _ gT=>bd (ldA gT x4 2) fun iD=>R iD gT)
 (bd (aP (ao (aA [(0,1),(1,1)]) [i64 0,i64 0] [(0,x5),(1,i64 0)])) fun iF=>bd2 (lmk (stV st 2 x4 iF)) fun _ eQ=>bd (ldA eQ x4 2) fun iN=>R iN eQ))
theorem NN (x1 x4 x5:LV) {R:LV.RT} {st:aa} (h:Kr x1 x4 x5 R st):mi x1 x4 x5 R st:=
 LTg.atE (gl:=L4) (cuts:=L5) (rc:=[]) (n:=3000) aO (by kernel_rfl) h
def Hr (x0 x1 x4 x5:LV) (R:LV.RT) (st:aa):Prop:=
 bd (bK x0) fun v0=>bd (ah BinOp.lss x5 v0) fun v1=>ak v1
 (bd (cA x0 x5) fun v2=>bd (ah BinOp.geq v2 (LV.int IntKind.u8 97)) fun v3=>ak v3
 (bd (cA x0 x5) fun v4=>bd (ah BinOp.leq v4 (LV.int IntKind.u8 122)) fun v5=>ak v5 (bd (ah BinOp.add x5 (i64 1)) fun v6=>qk x0 x1 x4 v6 R st)
 (bd (ah BinOp.gtr x5 x1) fun v7=>ak v7
 (bd (cA x0 x5) fun v8=>bd (ah BinOp.geq v8 (LV.int IntKind.u8 48)) fun v9=>ak v9
 (bd (cA x0 x5) fun eQ=>bd (ah BinOp.leq eQ (LV.int IntKind.u8 57)) fun gE=>ak gE (bd (ah BinOp.add x5 (i64 1)) fun gT=>qk x0 x1 x4 gT R st) (mi x1 x4 x5 R st))
 (mi x1 x4 x5 R st))
 (mi x1 x4 x5 R st)))
 (bd (ah BinOp.gtr x5 x1) fun iD=>ak iD
 (bd (cA x0 x5) fun iF=>bd (ah BinOp.geq iF (LV.int IntKind.u8 48)) fun iN=>ak iN
 (bd (cA x0 x5) fun iS=>bd (ah BinOp.leq iS (LV.int IntKind.u8 57)) fun mK=>ak mK (bd (ah BinOp.add x5 (i64 1)) fun nE=>qk x0 x1 x4 nE R st) (mi x1 x4 x5 R st))
 (mi x1 x4 x5 R st))
 (mi x1 x4 x5 R st)))
 (mi x1 x4 x5 R st)
theorem Ks (x0 x1 x4 x5:LV) {R:LV.RT} {st:aa} (h:Hr x0 x1 x4 x5 R st):qk x0 x1 x4 x5 R st:=
 LTg.atE (gl:=L4) (cuts:=L5) (rc:=[]) (n:=3000) aO (by kernel_rfl) h
def fV (x0 x1 x2 x3 x8 x9 x10 x11:LV) (R:LV.RT) (st:aa):Prop:=LTg Tryz.prog (kindOf false) [.cell 8 29,.cell 9 123] (aW Tryz.f244 10) [] R (x0::x1::x2::x3::(LV.jk 4 (x8::x9::x10::x11::(LV.jk 145 [])))) st
def CZ (x0 x1 x2 x3 x8 x9 x10 x11 x40:LV) (R:LV.RT) (st:aa):Prop:=LTg Tryz.prog (kindOf false) [.cell 8 29,.cell 9 123] (aW Tryz.f244 14) [] R (x0::x1::x2::x3::(LV.jk 4 (x8::x9::x10::x11::(LV.jk 28 (x40::(LV.jk 116 [])))))) st
def C0 (x8 x9:LV) (R:LV.RT) (st:aa):Prop:=LTg Tryz.prog (kindOf false) [.cell 8 29,.cell 9 123] (aW Tryz.f244 17) [] R (LV.jk 8 (x8::x9::(LV.jk 147 []))) st
def C1 (x8 x9:LV) (R:LV.RT) (st:aa):Prop:=LTg Tryz.prog (kindOf false) [.cell 8 29,.cell 9 123] (aW Tryz.f244 21) [] R (LV.jk 8 (x8::x9::(LV.jk 147 []))) st
def jW (x0 x1 x2 x3 x8 x9 x10 x11 x13 x15:LV) (R:LV.RT) (st:aa):Prop:=LTg Tryz.prog (kindOf false) [.cell 8 29,.cell 9 123] (aW Tryz.f244 25) [] R (x0::x1::x2::x3::(LV.jk 4 (x8::x9::x10::x11::.aL::x13::.aL::x15::(LV.jk 141 [])))) st
def qM (x8 x9:LV) (R:LV.RT) (st:aa):Prop:=LTg Tryz.prog (kindOf false) [.cell 8 29,.cell 9 123] (aW Tryz.f244 29) [] R (LV.jk 8 (x8::x9::(LV.jk 147 []))) st
def jX (x0 x1 x2 x3 x8 x9 x10 x11:LV) (R:LV.RT) (st:aa):Prop:=LTg Tryz.prog (kindOf false) [.cell 8 29,.cell 9 123] (aW Tryz.f244 32) [] R (x0::x1::x2::x3::(LV.jk 4 (x8::x9::x10::x11::(LV.jk 145 [])))) st
def wc (x8 x9:LV) (R:LV.RT) (st:aa):Prop:=LTg Tryz.prog (kindOf false) [.cell 8 29,.cell 9 123] (aW Tryz.f244 35) [] R (LV.jk 8 (x8::x9::(LV.jk 147 []))) st
def og:List Nat:=(LV.gx 4 153 [8,9,10,11])
def oh:List (Nat × List Nat):=[(11,(LV.gx 4 153 [8,9,10,11,40])),(14,(LV.gx 0 157 [8,9])),(18,(LV.gx 0 157 [8,9])),(22,(LV.gx 4 153 [8,9,10,11,13,15])),(26,(LV.gx 0 157 [8,9])),(29,(LV.gx 4 153 [8,9,10,11])),(32,(LV.gx 0 157 [8,9]))]
def NO (a0 a1 a2 a3:LV) (R:LV.RT) (st:aa):Prop:=
 nw st [i64 0,LV.nils,LV.nils,LV.nils] fun v0 oR=>nw oR [i64 0,i64 0] fun v2 rW=>bd (aP (ao (aA [(0,1),(1,1),(2,1),(3,1)]) [i64 0,LV.nils,LV.nils,LV.nils] [(0,i64 7)])) fun v4=>nw rW [i64 0,LV.nils,LV.nils,LV.nils] fun v5 aS=>bd2 (lmk (stV aS 4 v5 v4)) fun _v7 oF=>ak a3
 (bd (ad 0 v5) fun v9=>bd2 (lmk (stV oF 1 v9 (i64 8))) fun _ iF=>bd (ah BinOp.add a1 (i64 1)) fun iN=>LZ 243 [a0,iN] iF fun aT eQ=>bd (fY IntKind.i64 (LV.int IntKind.i32 125)) fun bY=>bd (ah BinOp.eql aT bY) fun dO=>ak dO
 (bd (ldA eQ v5 4) fun lE=>bd (ah BinOp.add iN (i64 1)) fun lT=>bd (aP (ao (aA [(0,1),(1,1)]) [i64 0,i64 0] [(0,lT),(1,i64 0)])) fun p7=>bd2 (lmk (stV eQ 4 v0 lE)) fun _ iS=>bd2 (lmk (stV iS 2 v2 p7)) fun _ gE=>bd (ldA gE v0 4) fun p8=>bd (ldA gE v2 2) fun p9=>R (LV.tup [p8,p9]) gE)
 (fV a0 iN a2 a3 v0 v2 v5 (LV.int IntKind.i32 125) R eQ))
 (bd (ah BinOp.add a1 (i64 1)) fun mK=>LZ 243 [a0,mK] oF fun tO gT=>bd (fY IntKind.i64 (LV.int IntKind.i32 93)) fun v29=>bd (ah BinOp.eql tO v29) fun v30=>ak v30
 (bd (ldA gT v5 4) fun v31=>bd (ah BinOp.add mK (i64 1)) fun v32=>bd (aP (ao (aA [(0,1),(1,1)]) [i64 0,i64 0] [(0,v32),(1,i64 0)])) fun v33=>bd2 (lmk (stV gT 4 v0 v31)) fun _v34 nE=>bd2 (lmk (stV nE 2 v2 v33)) fun _v36 iD=>bd (ldA iD v0 4) fun v38=>bd (ldA iD v2 2) fun v39=>R (LV.tup [v38,v39]) iD)
 (fV a0 mK a2 a3 v0 v2 v5 (LV.int IntKind.i32 93) R gT))
theorem ON (a0 a1 a2 a3:LV) {R:LV.RT} {st:aa} (h:NO a0 a1 a2 a3 R st):LZ 244 [a0,a1,a2,a3] st R:=
 cz og oh [.cell 8 29,.cell 9 123] Tryz.func244 h
def oi (x0 x1 x2 x3 x8 x9 x10 x11:LV) (R:LV.RT) (st:aa):Prop:=
 bd (ad 1 x10) fun v0=>bd (ld1 st v0) fun v1=>bd (bg v1) fun v2=>bd (ah BinOp.eql v2 (i64 16)) fun v3=>ak v3
 (bd (ldA st x10 4) fun v4=>bd (aP (ao (aA [(0,1),(1,1)]) [i64 0,i64 0] [(0,x1),(1,i64 3)])) fun v5=>bd2 (lmk (stV st 4 x8 v4)) fun _ gE=>bd2 (lmk (stV gE 2 x9 v5)) fun _ eQ=>bd (ldA eQ x8 4) fun gT=>bd (ldA eQ x9 2) fun iD=>R (LV.tup [gT,iD]) eQ)
 (CZ x0 x1 x2 x3 x8 x9 x10 x11 x3 R st)
theorem qN (x0 x1 x2 x3 x8 x9 x10 x11:LV) {R:LV.RT} {st:aa} (h:oi x0 x1 x2 x3 x8 x9 x10 x11 R st):fV x0 x1 x2 x3 x8 x9 x10 x11 R st:=
 pz og oh h
def we (x0 x1 x2 x3 x8 x9 x10 x11 x40:LV) (R:LV.RT) (st:aa):Prop:=
 ak x40
 (LZ 77 [x0,x1] st fun v0 st1=>nw st1 [i64 0,i64 0] fun v2 st3=>bd2 (lmk (stV st3 2 v2 v0)) fun _v4 eQ=>bd (ad 1 v2) fun v6=>bd (ld1 eQ v6) fun v7=>bd (ah BinOp.neq v7 (i64 0)) fun v8=>ak v8
 (bd (ldA eQ x10 4) fun v9=>bd (ldA eQ v2 2) fun v10=>bd2 (lmk (stV eQ 4 x8 v9)) fun _v11 aT=>ldA aT v2 2=some v10∧bd2 (lmk (stV aT 2 x9 v10)) fun _v13 tO=>C0 x8 x9 R tO)
 (bd (ad 0 v2) fun v15=>bd (ld1 eQ v15) fun v16=>bd (ob3 (some x1) (some v16) none fun l h m=>cI x0 l h m) fun oF=>bd (ad 2 x10) fun v18=>bd (ld1 eQ v18) fun v19=>bd (bg v19) fun aS=>bd (ah BinOp.gtr aS (i64 0)) fun v21=>ak v21
 (bd (ad 2 x10) fun v22=>bd (ld1 eQ v22) fun v23=>bd (ah BinOp.sub aS (i64 1)) fun v24=>bd (aK 1 v23 v24) fun v25=>bd (ld1 eQ v25) fun v26=>bd (bE BinOp.eql oF v26) fun v27=>ak v27
 (bd (ldA eQ x10 4) fun v28=>bd (aP (ao (aA [(0,1),(1,1)]) [i64 0,i64 0] [(0,x1),(1,i64 9)])) fun v29=>bd2 (lmk (stV eQ 4 x8 v28)) fun _v30 st31=>bd2 (lmk (stV st31 2 x9 v29)) fun _v32 st33=>C1 x8 x9 R st33)
 (bd (ah BinOp.gtr aS (i64 0)) fun v34=>ak v34
 (bd (ad 2 x10) fun v35=>bd (ld1 eQ v35) fun v36=>bd (ah BinOp.sub aS (i64 1)) fun v37=>bd (aK 1 v36 v37) fun v38=>bd (ld1 eQ v38) fun v39=>bd (bE BinOp.lss oF v39) fun v40=>ak v40
 (bd (ldA eQ x10 4) fun v41=>bd (aP (ao (aA [(0,1),(1,1)]) [i64 0,i64 0] [(0,x1),(1,i64 4)]))
 fun v42=>bd2 (lmk (stV eQ 4 x8 v41)) fun _v43 st44=>bd2 (lmk (stV st44 2 x9 v42)) fun _v45 oR=>bd (ldA oR x8 4) fun v47=>bd (ldA oR x9 2) fun v48=>R (LV.tup [v47,v48]) oR)
 (bd (ad 0 v2) fun v49=>bd (ld1 eQ v49) fun v50=>LZ 243 [x0,v50] eQ fun v51 st52=>bd (ah BinOp.eql v51 (i64 63)) fun v53=>jW x0 v50 x2 x3 x8 x9 x10 x11 oF v53 R st52))
 (bd (ad 0 v2) fun v54=>bd (ld1 eQ v54) fun v55=>LZ 243 [x0,v55] eQ fun v56 st57=>bd (ah BinOp.eql v56 (i64 63)) fun v58=>jW x0 v55 x2 x3 x8 x9 x10 x11 oF v58 R st57)))
 (bd (ah BinOp.gtr aS (i64 0)) fun v59=>ak v59
 (bd (ad 2 x10) fun v60=>bd (ld1 eQ v60) fun v61=>bd (ah BinOp.sub aS (i64 1)) fun v62=>bd (aK 1 v61 v62) fun v63=>bd (ld1 eQ v63) fun v64=>bd (bE BinOp.lss oF v64) fun v65=>ak v65
 (bd (ldA eQ x10 4) fun v66=>bd (aP (ao (aA [(0,1),(1,1)]) [i64 0,i64 0] [(0,x1),(1,i64 4)])) fun v67=>bd2 (lmk (stV eQ 4 x8 v66)) fun _v68 st69=>bd2 (lmk (stV st69 2 x9 v67)) fun _v70 rW=>bd (ldA rW x8 4) fun v72=>bd (ldA rW x9 2) fun v73=>R (LV.tup [v72,v73]) rW)
 (bd (ad 0 v2) fun v74=>bd (ld1 eQ v74) fun v75=>LZ 243 [x0,v75] eQ fun v76 st77=>bd (ah BinOp.eql v76 (i64 63)) fun v78=>jW x0 v75 x2 x3 x8 x9 x10 x11 oF v78 R st77))
 (bd (ad 0 v2) fun v79=>bd (ld1 eQ v79) fun v80=>LZ 243 [x0,v80] eQ fun v81 st82=>bd (ah BinOp.eql v81 (i64 63)) fun v83=>jW x0 v80 x2 x3 x8 x9 x10 x11 oF v83 R st82))))
 (bd (ah BinOp.add x2 (i64 1)) fun v84=>LZ 196 [x0,x1,v84] st fun v85 st86=>bd (aj v85 0) fun v87=>bd (aj v85 1) fun v88=>nw st86 [i64 0,LV.nils,LV.nils,LV.nils] fun v89 st90=>nw st90 [i64 0,i64 0] fun bY st92=>bd2 (lmk (stV st92 4 v89 v87)) fun _v93 st94=>bd2 (lmk (stV st94 2 bY v88)) fun _v95 gE=>bd (ad 1 bY) fun v97=>bd (ld1 gE v97) fun v98=>bd (ah BinOp.neq v98 (i64 0)) fun v99=>ak v99
 (bd (ldA gE x10 4) fun v100=>bd (ldA gE bY 2) fun dO=>bd2 (lmk (stV gE 4 x8 v100)) fun _v102 mK=>ldA mK bY 2=some dO∧bd2 (lmk (stV mK 2 x9 dO)) fun _v104 lE=>wc x8 x9 R lE)
 (bd (ad 1 x10) fun v106=>bd (ld1 gE v106) fun v107=>bd (ldA gE v89 4) fun v108=>bd2 (aN gE 1 (ao (fun i=>some (i*4,4)) (List.replicate 1 [i64 0,LV.nils,LV.nils,LV.nils]).flatten [(0,v108)])) fun v109 lT=>bd2 (ar lT 4 80 Md.rw v107 v109) fun v111 p7=>bd (ad 1 x10) fun v113=>bd2 (lmk (stV p7 1 v113 v111)) fun _v114 nE=>bd (ad 0 bY) fun v116=>bd (ld1 nE v116) fun gT=>LZ 243 [x0,gT] nE fun v118 iD=>bd (fY IntKind.i64 x11) fun v120=>bd (ah BinOp.eql v118 v120) fun v121=>ak v121
 (bd (ldA iD x10 4) fun v122=>bd (ah BinOp.add gT (i64 1)) fun v123=>bd (aP (ao (aA [(0,1),(1,1)]) [i64 0,i64 0] [(0,v123),(1,i64 0)])) fun v124=>bd2 (lmk (stV iD 4 x8 v122)) fun _v125 p8=>bd2 (lmk (stV p8 2 x9 v124)) fun _v127 iF=>bd (ldA iF x8 4) fun v129=>bd (ldA iF x9 2) fun v130=>R (LV.tup [v129,v130]) iF)
 (LZ 243 [x0,gT] iD fun v131 iN=>bd (ah BinOp.neq v131 (i64 44)) fun v133=>ak v133
 (bd (ldA iN x10 4) fun v134=>bd (aP (ao (aA [(0,1),(1,1)]) [i64 0,i64 0] [(0,gT),(1,i64 4)]))
 fun v135=>bd2 (lmk (stV iN 4 x8 v134)) fun _v136 p9=>bd2 (lmk (stV p9 2 x9 v135)) fun _v138 iS=>bd (ldA iS x8 4) fun v140=>bd (ldA iS x9 2) fun v141=>R (LV.tup [v140,v141]) iS)
 (bd (ah BinOp.add gT (i64 1)) fun v142=>fV x0 v142 x2 x3 x8 x9 x10 x11 R iN))))
theorem C2 (x0 x1 x2 x3 x8 x9 x10 x11 x40:LV) {R:LV.RT} {st:aa} (h:we x0 x1 x2 x3 x8 x9 x10 x11 x40 R st):CZ x0 x1 x2 x3 x8 x9 x10 x11 x40 R st:=
 pz og oh h
def Jb (x8 x9:LV) (R:LV.RT) (st:aa):Prop:=
 bd (ldA st x8 4) fun v0=>bd (ldA st x9 2) fun v1=>R (LV.tup [v0,v1]) st
theorem Jc (x8 x9:LV) {R:LV.RT} {st:aa} (h:Jb x8 x9 R st):C0 x8 x9 R st:=
 pz og oh h
def Jd (x8 x9:LV) (R:LV.RT) (st:aa):Prop:=
 bd (ldA st x8 4) fun v0=>bd (ldA st x9 2) fun v1=>R (LV.tup [v0,v1]) st
theorem Je (x8 x9:LV) {R:LV.RT} {st:aa} (h:Jd x8 x9 R st):C1 x8 x9 R st:=
 pz og oh h
def wg (x0 x1 x2 x3 x8 x9 x10 x11 x13 x15:LV) (R:LV.RT) (st:aa):Prop:=
 ak x15
 (bd (ah BinOp.add x1 (i64 1)) fun v0=>LZ 243 [x0,v0] st fun v1 iD=>bd (ah BinOp.neq v1 (i64 58)) fun v3=>ak v3
 (bd (ldA iD x10 4) fun v4=>bd (aP (ao (aA [(0,1),(1,1)]) [i64 0,i64 0] [(0,v0),(1,i64 4)])) fun v5=>bd2 (lmk (stV iD 4 x8 v4)) fun _v6 lE=>bd2 (lmk (stV lE 2 x9 v5)) fun _v8 lT=>qM x8 x9 R lT)
 (bd (ah BinOp.add v0 (i64 1)) fun p7=>bd (ad 2 x10) fun p8=>bd (ld1 iD p8) fun p9=>bd2 (aN iD 1 (ao (fun i=>some (i*1,1)) (List.replicate 1 [LV.str []]).flatten [(0,x13)])) fun tO iF=>bd2 (ar iF 1 16 Md.rw p9 tO) fun v15 iN=>bd (ad 2 x10) fun v17=>bd2 (lmk (stV iN 1 v17 v15)) fun _v18 gE=>bd (ad 3 x10) fun v20=>bd (ld1 gE v20) fun v21=>bd2 (aN gE 1 (ao (fun i=>some (i*1,1)) (List.replicate 1 [LV.bool false]).flatten [(0,x15)])) fun v22 iS=>bd2 (ar iS 1 1 Md.rw v21 v22) fun v24 mK=>bd (ad 3 x10) fun v26=>bd2 (lmk (stV mK 1 v26 v24)) fun _v27 nE=>jX x0 p7 x2 x3 x8 x9 x10 x11 R nE))
 (LZ 243 [x0,x1] st fun v29 eQ=>bd (ah BinOp.neq v29 (i64 58)) fun v31=>ak v31
 (bd (ldA eQ x10 4) fun v32=>bd (aP (ao (aA [(0,1),(1,1)]) [i64 0,i64 0] [(0,x1),(1,i64 4)])) fun v33=>bd2 (lmk (stV eQ 4 x8 v32)) fun _v34 oF=>bd2 (lmk (stV oF 2 x9 v33)) fun _v36 oR=>qM x8 x9 R oR)
 (bd (ah BinOp.add x1 (i64 1)) fun v38=>bd (ad 2 x10) fun v39=>bd (ld1 eQ v39) fun v40=>bd2 (aN eQ 1 (ao (fun i=>some (i*1,1)) (List.replicate 1 [LV.str []]).flatten [(0,x13)])) fun v41 rW=>bd2 (ar rW 1 16 Md.rw v40 v41) fun v43 aS=>bd (ad 2 x10) fun v45=>bd2 (lmk (stV aS 1 v45 v43)) fun _v46 gT=>bd (ad 3 x10) fun v48=>bd (ld1 gT v48) fun v49=>bd2 (aN gT 1 (ao (fun i=>some (i*1,1)) (List.replicate 1 [LV.bool false]).flatten [(0,x15)])) fun v50 aT=>bd2 (ar aT 1 1 Md.rw v49 v50) fun v52 bY=>bd (ad 3 x10) fun v54=>bd2 (lmk (stV bY 1 v54 v52)) fun _v55 dO=>jX x0 v38 x2 x3 x8 x9 x10 x11 R dO))
theorem Jf (x0 x1 x2 x3 x8 x9 x10 x11 x13 x15:LV) {R:LV.RT} {st:aa} (h:wg x0 x1 x2 x3 x8 x9 x10 x11 x13 x15 R st):jW x0 x1 x2 x3 x8 x9 x10 x11 x13 x15 R st:=
 pz og oh h
def Jg (x8 x9:LV) (R:LV.RT) (st:aa):Prop:=
 bd (ldA st x8 4) fun v0=>bd (ldA st x9 2) fun v1=>R (LV.tup [v0,v1]) st
theorem Jh (x8 x9:LV) {R:LV.RT} {st:aa} (h:Jg x8 x9 R st):qM x8 x9 R st:=
 pz og oh h
def C3 (x0 x1 x2 x3 x8 x9 x10 x11:LV) (R:LV.RT) (st:aa):Prop:=
 bd (ah BinOp.add x2 (i64 1)) fun v0=>LZ 196 [x0,x1,v0] st fun v1 dO=>bd (aj v1 0) fun v3=>bd (aj v1 1) fun v4=>nw dO [i64 0,LV.nils,LV.nils,LV.nils] fun v5 lE=>nw lE [i64 0,i64 0] fun v7 lT=>bd2 (lmk (stV lT 4 v5 v3)) fun _v9 nE=>bd2 (lmk (stV nE 2 v7 v4)) fun _ eQ=>bd (ad 1 v7) fun p7=>bd (ld1 eQ p7) fun p8=>bd (ah BinOp.neq p8 (i64 0)) fun p9=>ak p9
 (bd (ldA eQ x10 4) fun tO=>bd (ldA eQ v7 2) fun bY=>bd2 (lmk (stV eQ 4 x8 tO)) fun _ iN=>ldA iN v7 2=some bY∧bd2 (lmk (stV iN 2 x9 bY)) fun _ oF=>wc x8 x9 R oF)
 (bd (ad 1 x10) fun v22=>bd (ld1 eQ v22) fun v23=>bd (ldA eQ v5 4) fun v24=>bd2 (aN eQ 1 (ao (fun i=>some (i*4,4)) (List.replicate 1 [i64 0,LV.nils,LV.nils,LV.nils]).flatten [(0,v24)])) fun v25 oR=>bd2 (ar oR 4 80 Md.rw v23 v25) fun v27 rW=>bd (ad 1 x10) fun v29=>bd2 (lmk (stV rW 1 v29 v27)) fun _v30 iS=>bd (ad 0 v7) fun v32=>bd (ld1 iS v32) fun mK=>LZ 243 [x0,mK] iS fun v34 gE=>bd (fY IntKind.i64 x11) fun v36=>bd (ah BinOp.eql v34 v36) fun v37=>ak v37
 (bd (ldA gE x10 4) fun v38=>bd (ah BinOp.add mK (i64 1)) fun v39=>bd (aP (ao (aA [(0,1),(1,1)]) [i64 0,i64 0] [(0,v39),(1,i64 0)])) fun v40=>bd2 (lmk (stV gE 4 x8 v38)) fun _v41 aS=>bd2 (lmk (stV aS 2 x9 v40)) fun _v43 gT=>bd (ldA gT x8 4) fun v45=>bd (ldA gT x9 2) fun v46=>R (LV.tup [v45,v46]) gT)
 (LZ 243 [x0,mK] gE fun v47 iD=>bd (ah BinOp.neq v47 (i64 44)) fun v49=>ak v49
 (bd (ldA iD x10 4) fun v50=>bd (aP (ao (aA [(0,1),(1,1)]) [i64 0,i64 0] [(0,mK),(1,i64 4)])) fun v51=>bd2 (lmk (stV iD 4 x8 v50)) fun _v52 aT=>bd2 (lmk (stV aT 2 x9 v51)) fun _v54 iF=>bd (ldA iF x8 4) fun v56=>bd (ldA iF x9 2) fun v57=>R (LV.tup [v56,v57]) iF)
 (bd (ah BinOp.add mK (i64 1)) fun v58=>fV x0 v58 x2 x3 x8 x9 x10 x11 R iD)))
theorem Ji (x0 x1 x2 x3 x8 x9 x10 x11:LV) {R:LV.RT} {st:aa} (h:C3 x0 x1 x2 x3 x8 x9 x10 x11 R st):jX x0 x1 x2 x3 x8 x9 x10 x11 R st:=
 pz og oh h
def Jj (x8 x9:LV) (R:LV.RT) (st:aa):Prop:=
 bd (ldA st x8 4) fun v0=>bd (ldA st x9 2) fun v1=>R (LV.tup [v0,v1]) st
theorem C4 (x8 x9:LV) {R:LV.RT} {st:aa} (h:Jj x8 x9 R st):wc x8 x9 R st:=
 pz og oh h
def b9 (x2 x3 x6 x11:LV) (R:LV.RT) (st:aa):Prop:=LTg Tryz.prog (kindOf false) [.tmp 4,.tmp 5] (aW Tryz.f134 19) [] R (.aL::.aL::x2::x3::.aL::.aL::x6::(LV.jk 4 (x11::(LV.jk 150 [])))) st
def oo (x2 x3 x6 x11:LV) (R:LV.RT) (st:aa):Prop:=LTg Tryz.prog (kindOf false) [.tmp 4,.tmp 5] (aW Tryz.f134 40) [] R (.aL::.aL::x2::x3::.aL::.aL::x6::(LV.jk 4 (x11::(LV.jk 150 [])))) st
def Hs:List Nat:=(LV.gx 0 162 [2,3,6,11])
def NP (a0 a1:LV) (R:LV.RT) (st:aa):Prop:=
 bd2 (ca st a0) fun v0 st1=>bd2 (ca st1 a1) fun v2 eQ=>bd (ad 0 v2) fun v4=>bd (ld1 eQ v4) fun v5=>bd (ah BinOp.lss v5 (i64 2)) fun v6=>ak v6 (R (LV.tup [LV.nils,LV.bool false]) eQ)
 (bd (ad 0 v0) fun v7=>bd (ld1 eQ v7) fun v8=>bd (ah BinOp.eql v8 (i64 0)) fun v9=>ak v9 (R (LV.tup [LV.nils,LV.bool false]) eQ)
 (bd (ad 0 v0) fun v10=>bd (ld1 eQ v10) fun gT=>bd (ah BinOp.eql gT (i64 1)) fun v12=>ak v12
 (ak v12
 (bd (ad 0 v2) fun v13=>bd (ld1 eQ v13) fun v14=>bd (ad 0 v0) fun v15=>bd (ld1 eQ v15) fun v16=>bd2
 (aN eQ 5
 (ao (fun i=>some (i*1,1)) (List.replicate 5 [i64 0]).flatten
 [(0,i64 0),(1,i64 2),(2,i64 3),(3,i64 0),(4,i64 5)]))
 fun v17 iD=>ld1 iD v15=some v16∧
 ld1 iD v13=some v14∧bd (aK 1 v17 v16) fun v19=>bd (ld1 iD v19) fun v20=>bd (ah BinOp.neq v14 v20) fun v21=>R (LV.tup [LV.nils,v21]) iD)
 (bd (ah BinOp.eql gT (i64 3)) fun v22=>ak v22
 (bd (ad 0 v2) fun v23=>bd (ld1 eQ v23) fun v24=>bd (ah BinOp.neq v24 (i64 4)) fun v25=>ak v25
 (bd (ad 0 v2) fun v26=>bd (ld1 eQ v26) fun v27=>bd (ah BinOp.neq v27 (i64 3)) fun v28=>ak v28 (R (LV.tup [LV.nils,LV.bool true]) eQ)
 (bd (ad 2 v2) fun v29=>bd (ld1 eQ v29) fun v30=>bd (ah BinOp.lss v30 (i64 (-9007199254740992))) fun v31=>ak v31 (R (LV.tup [LV.nils,LV.bool true]) eQ)
 (bd (ad 2 v2) fun v32=>bd (ld1 eQ v32) fun v33=>bd (ah BinOp.gtr v33 (i64 9007199254740992)) fun v34=>R (LV.tup [LV.nils,v34]) eQ)))
 (R (LV.tup [LV.nils,LV.bool false]) eQ))
 (bd (ah BinOp.eql gT (i64 5)) fun v35=>ak v35
 (ak v35
 (bd (ad 0 v2) fun v36=>bd (ld1 eQ v36) fun v37=>bd (ah BinOp.neq v37 (i64 6)) fun v38=>ak v38 (R (LV.tup [LV.nils,LV.bool true]) eQ)
 (bd (ad 0 v0) fun v39=>bd (ld1 eQ v39) fun v40=>bd (ah BinOp.eql v40 (i64 7)) fun v41=>ak v41
 (bd (ad 5 v2) fun v42=>bd (ld1 eQ v42) fun v43=>bd (bg v43) fun v44=>bd (ad 1 v0) fun v45=>bd (ld1 eQ v45) fun v46=>bd (bg v46) fun v47=>bd (ah BinOp.neq v44 v47) fun v48=>ak v48 (R (LV.tup [LV.nils,LV.bool true]) eQ) (b9 v0 v2 (i64 0) (LV.tup []) R eQ))
 (b9 v0 v2 (i64 0) (LV.tup []) R eQ)))
 (bd (ad 0 v2) fun v49=>bd (ld1 eQ v49) fun v50=>bd (ah BinOp.neq v50 (i64 7)) fun v51=>ak v51 (R (LV.tup [LV.nils,LV.bool true]) eQ) (b9 v0 v2 (i64 0) (LV.tup []) R eQ)))
 (bd (ah BinOp.eql gT (i64 7)) fun v52=>ak v52
 (bd (ad 0 v2) fun v53=>bd (ld1 eQ v53) fun v54=>bd (ah BinOp.neq v54 (i64 6)) fun v55=>ak v55 (R (LV.tup [LV.nils,LV.bool true]) eQ)
 (bd (ad 0 v0) fun v56=>bd (ld1 eQ v56) fun v57=>bd (ah BinOp.eql v57 (i64 7)) fun v58=>ak v58
 (bd (ad 5 v2) fun v59=>bd (ld1 eQ v59) fun v60=>bd (bg v60) fun v61=>bd (ad 1 v0) fun v62=>bd (ld1 eQ v62) fun v63=>bd (bg v63) fun v64=>bd (ah BinOp.neq v61 v64) fun v65=>ak v65 (R (LV.tup [LV.nils,LV.bool true]) eQ) (b9 v0 v2 (i64 0) (LV.tup []) R eQ))
 (b9 v0 v2 (i64 0) (LV.tup []) R eQ)))
 (bd (ad 0 v2) fun v66=>bd (ld1 eQ v66) fun v67=>bd (ah BinOp.neq v67 (i64 7)) fun v68=>ak v68 (R (LV.tup [LV.nils,LV.bool true]) eQ) (b9 v0 v2 (i64 0) (LV.tup []) R eQ))))))
 (bd (ah BinOp.eql gT (i64 2)) fun v69=>ak v69
 (ak v69
 (bd (ad 0 v2) fun v70=>bd (ld1 eQ v70) fun v71=>bd (ad 0 v0) fun v72=>bd (ld1 eQ v72) fun v73=>bd2
 (aN eQ 5
 (ao (fun i=>some (i*1,1)) (List.replicate 5 [i64 0]).flatten
 [(0,i64 0),(1,i64 2),(2,i64 3),(3,i64 0),(4,i64 5)]))
 fun v74 iF=>ld1 iF v72=some v73∧
 ld1 iF v70=some v71∧
 bd (aK 1 v74 v73) fun v76=>bd (ld1 iF v76) fun v77=>bd (ah BinOp.neq v71 v77) fun v78=>R (LV.tup [LV.nils,v78]) iF)
 (bd (ah BinOp.eql gT (i64 3)) fun v79=>ak v79
 (bd (ad 0 v2) fun v80=>bd (ld1 eQ v80) fun v81=>bd (ah BinOp.neq v81 (i64 4)) fun v82=>ak v82
 (bd (ad 0 v2) fun v83=>bd (ld1 eQ v83) fun v84=>bd (ah BinOp.neq v84 (i64 3)) fun v85=>ak v85 (R (LV.tup [LV.nils,LV.bool true]) eQ)
 (bd (ad 2 v2) fun v86=>bd (ld1 eQ v86) fun v87=>bd (ah BinOp.lss v87 (i64 (-9007199254740992))) fun v88=>ak v88 (R (LV.tup [LV.nils,LV.bool true]) eQ)
 (bd (ad 2 v2) fun v89=>bd (ld1 eQ v89) fun v90=>bd (ah BinOp.gtr v90 (i64 9007199254740992)) fun v91=>R (LV.tup [LV.nils,v91]) eQ)))
 (R (LV.tup [LV.nils,LV.bool false]) eQ))
 (bd (ah BinOp.eql gT (i64 5)) fun v92=>ak v92
 (ak v92
 (bd (ad 0 v2) fun v93=>bd (ld1 eQ v93) fun v94=>bd (ah BinOp.neq v94 (i64 6)) fun v95=>ak v95 (R (LV.tup [LV.nils,LV.bool true]) eQ)
 (bd (ad 0 v0) fun v96=>bd (ld1 eQ v96) fun v97=>bd (ah BinOp.eql v97 (i64 7)) fun v98=>ak v98
 (bd (ad 5 v2) fun v99=>bd (ld1 eQ v99) fun oR=>bd (bg oR) fun rW=>bd (ad 1 v0) fun aS=>bd (ld1 eQ aS) fun aT=>bd (bg aT) fun bY=>bd (ah BinOp.neq rW bY) fun dO=>ak dO (R (LV.tup [LV.nils,LV.bool true]) eQ) (b9 v0 v2 (i64 0) (LV.tup []) R eQ))
 (b9 v0 v2 (i64 0) (LV.tup []) R eQ)))
 (bd (ad 0 v2) fun lE=>bd (ld1 eQ lE) fun lT=>bd (ah BinOp.neq lT (i64 7)) fun p7=>ak p7 (R (LV.tup [LV.nils,LV.bool true]) eQ) (b9 v0 v2 (i64 0) (LV.tup []) R eQ)))
 (bd (ah BinOp.eql gT (i64 7)) fun p8=>ak p8
 (bd (ad 0 v2) fun p9=>bd (ld1 eQ p9) fun tO=>bd (ah BinOp.neq tO (i64 6)) fun v112=>ak v112 (R (LV.tup [LV.nils,LV.bool true]) eQ)
 (bd (ad 0 v0) fun v113=>bd (ld1 eQ v113) fun v114=>bd (ah BinOp.eql v114 (i64 7)) fun v115=>ak v115
 (bd (ad 5 v2) fun v116=>bd (ld1 eQ v116) fun v117=>bd (bg v117) fun v118=>bd (ad 1 v0) fun v119=>bd (ld1 eQ v119) fun v120=>bd (bg v120) fun v121=>bd (ah BinOp.neq v118 v121) fun v122=>ak v122 (R (LV.tup [LV.nils,LV.bool true]) eQ) (b9 v0 v2 (i64 0) (LV.tup []) R eQ))
 (b9 v0 v2 (i64 0) (LV.tup []) R eQ)))
 (bd (ad 0 v2) fun v123=>bd (ld1 eQ v123) fun v124=>bd (ah BinOp.neq v124 (i64 7)) fun v125=>ak v125 (R (LV.tup [LV.nils,LV.bool true]) eQ) (b9 v0 v2 (i64 0) (LV.tup []) R eQ))))))
 (bd (ah BinOp.eql gT (i64 4)) fun v126=>ak v126
 (bd (ad 0 v2) fun iN=>bd (ld1 eQ iN) fun iS=>bd (ad 0 v0) fun mK=>bd (ld1 eQ mK) fun nE=>bd2
 (aN eQ 5
 (ao (fun i=>some (i*1,1)) (List.replicate 5 [i64 0]).flatten
 [(0,i64 0),(1,i64 2),(2,i64 3),(3,i64 0),(4,i64 5)]))
 fun v131 gE=>ld1 gE mK=some nE∧
 ld1 gE iN=some iS∧
 bd (aK 1 v131 nE) fun v133=>bd (ld1 gE v133) fun v134=>bd (ah BinOp.neq iS v134) fun v135=>R (LV.tup [LV.nils,v135]) gE)
 (bd (ah BinOp.eql gT (i64 3)) fun v136=>ak v136
 (bd (ad 0 v2) fun v137=>bd (ld1 eQ v137) fun v138=>bd (ah BinOp.neq v138 (i64 4)) fun v139=>ak v139
 (bd (ad 0 v2) fun v140=>bd (ld1 eQ v140) fun v141=>bd (ah BinOp.neq v141 (i64 3)) fun v142=>ak v142 (R (LV.tup [LV.nils,LV.bool true]) eQ)
 (bd (ad 2 v2) fun v143=>bd (ld1 eQ v143) fun v144=>bd (ah BinOp.lss v144 (i64 (-9007199254740992))) fun v145=>ak v145 (R (LV.tup [LV.nils,LV.bool true]) eQ)
 (bd (ad 2 v2) fun v146=>bd (ld1 eQ v146) fun v147=>bd (ah BinOp.gtr v147 (i64 9007199254740992)) fun v148=>R (LV.tup [LV.nils,v148]) eQ)))
 (R (LV.tup [LV.nils,LV.bool false]) eQ))
 (bd (ah BinOp.eql gT (i64 5)) fun oF=>ak oF
 (ak oF
 (bd (ad 0 v2) fun v150=>bd (ld1 eQ v150) fun v151=>bd (ah BinOp.neq v151 (i64 6)) fun v152=>ak v152 (R (LV.tup [LV.nils,LV.bool true]) eQ)
 (bd (ad 0 v0) fun v153=>bd (ld1 eQ v153) fun v154=>bd (ah BinOp.eql v154 (i64 7)) fun v155=>ak v155
 (bd (ad 5 v2) fun v156=>bd (ld1 eQ v156) fun v157=>bd (bg v157) fun v158=>bd (ad 1 v0) fun v159=>bd (ld1 eQ v159) fun v160=>bd (bg v160) fun v161=>bd (ah BinOp.neq v158 v161) fun v162=>ak v162 (R (LV.tup [LV.nils,LV.bool true]) eQ) (b9 v0 v2 (i64 0) (LV.tup []) R eQ))
 (b9 v0 v2 (i64 0) (LV.tup []) R eQ)))
 (bd (ad 0 v2) fun v163=>bd (ld1 eQ v163) fun v164=>bd (ah BinOp.neq v164 (i64 7)) fun v165=>ak v165 (R (LV.tup [LV.nils,LV.bool true]) eQ) (b9 v0 v2 (i64 0) (LV.tup []) R eQ)))
 (bd (ah BinOp.eql gT (i64 7)) fun v166=>ak v166
 (bd (ad 0 v2) fun v167=>bd (ld1 eQ v167) fun v168=>bd (ah BinOp.neq v168 (i64 6)) fun v169=>ak v169 (R (LV.tup [LV.nils,LV.bool true]) eQ)
 (bd (ad 0 v0) fun v170=>bd (ld1 eQ v170) fun v171=>bd (ah BinOp.eql v171 (i64 7)) fun v172=>ak v172
 (bd (ad 5 v2) fun v173=>bd (ld1 eQ v173) fun v174=>bd (bg v174) fun v175=>bd (ad 1 v0) fun v176=>bd (ld1 eQ v176) fun v177=>bd (bg v177) fun v178=>bd (ah BinOp.neq v175 v178) fun v179=>ak v179 (R (LV.tup [LV.nils,LV.bool true]) eQ) (b9 v0 v2 (i64 0) (LV.tup []) R eQ))
 (b9 v0 v2 (i64 0) (LV.tup []) R eQ)))
 (bd (ad 0 v2) fun v180=>bd (ld1 eQ v180) fun v181=>bd (ah BinOp.neq v181 (i64 7)) fun v182=>ak v182 (R (LV.tup [LV.nils,LV.bool true]) eQ) (b9 v0 v2 (i64 0) (LV.tup []) R eQ)))))))))
theorem OO (a0 a1:LV) {R:LV.RT} {st:aa} (h:NP a0 a1 R st):LZ 134 [a0,a1] st R:=
 cz Hs [] [.tmp 4,.tmp 5] Tryz.func134 h
def wh (x2 x3 x6 x11:LV) (R:LV.RT) (st:aa):Prop:=
 bd (ad 5 x3) fun v0=>bd (ld1 st v0) fun v1=>bd (bg v1) fun v2=>bd (ah BinOp.lss x6 v2) fun v3=>ak v3
 (bd (aP (ao (aA [(0,1),(1,1)]) [LV.str [],i64 0] [(1,x6)])) fun v4=>nw st [LV.str [],i64 0] fun v5 st6=>bd2 (lmk (stV st6 2 v5 v4)) fun _v7 gE=>bd (ad 0 x3) fun v9=>bd (ld1 gE v9) fun v10=>bd (ah BinOp.eql v10 (i64 7)) fun v11=>ak v11
 (bd (ad 6 x3) fun v12=>bd (ld1 gE v12) fun v13=>bd (aK 1 v13 x6) fun v14=>bd (ld1 gE v14) fun v15=>bd (aP (ao (aA [(0,1),(1,1)]) [LV.str [],i64 0] [(0,v15),(1,i64 (-1))])) fun v16=>bd2 (lmk (stV gE 2 v5 v16)) fun _v17 eQ=>bd (ad 0 x2) fun v19=>bd (ld1 eQ v19) fun v20=>bd (ah BinOp.eql v20 (i64 7)) fun v21=>ak v21
 (bd (ah BinOp.lss x6 (i64 0)) fun v22=>ak v22
 (bd (ldA eQ v5 2) fun v23=>bd2 (aN eQ 1 (ao (fun i=>some (i*2,2)) (List.replicate 1 [LV.str [],i64 0]).flatten [(0,v23)])) fun v24 st25=>R (LV.tup [v24,LV.bool true]) st25)
 (bd (ad 1 x2) fun v26=>bd (ld1 eQ v26) fun v27=>bd (aK 4 v27 x6) fun v28=>bd (ldA eQ v28 4) fun v29=>bd (ad 5 x3) fun v30=>bd (ld1 eQ v30) fun v31=>bd (aK 7 v31 x6) fun v32=>bd (ldA eQ v32 7) fun v33=>LZ 134 [v29,v33] eQ fun v34 mK=>bd (aj v34 0) fun v36=>bd (aj v34 1) fun v37=>ak v37
 (bd (ldA mK v5 2) fun v38=>bd2 (aN mK 1 (ao (fun i=>some (i*2,2)) (List.replicate 1 [LV.str [],i64 0]).flatten [(0,v38)]))
 fun v39 st40=>bd2 (ar st40 2 24 Md.rw v39 v36) fun v41 st42=>R (LV.tup [v41,LV.bool true]) st42)
 (bd (ah BinOp.add x6 (i64 1)) fun v43=>b9 x2 x3 v43 x11 R mK)))
 (bd (ah BinOp.eql v20 (i64 8)) fun v44=>ak v44
 (bd (ldA eQ x2 4) fun v45=>bd (ad 6 x3) fun v46=>bd (ld1 eQ v46) fun v47=>bd (aK 1 v47 x6) fun v48=>bd (ld1 eQ v48) fun v49=>LZ 135 [v45,v49] eQ fun v50 iD=>bd (ah BinOp.lss v50 (i64 0)) fun v52=>ak v52
 (bd (ldA iD v5 2) fun v53=>bd2 (aN iD 1 (ao (fun i=>some (i*2,2)) (List.replicate 1 [LV.str [],i64 0]).flatten [(0,v53)]))
 fun v54 st55=>R (LV.tup [v54,LV.bool true]) st55)
 (bd (ad 1 x2) fun v56=>bd (ld1 iD v56) fun v57=>bd (aK 4 v57 v50) fun v58=>bd (ldA iD v58 4) fun v59=>bd (ad 5 x3) fun v60=>bd (ld1 iD v60) fun v61=>bd (aK 7 v61 x6) fun v62=>bd (ldA iD v62 7) fun v63=>LZ 134 [v59,v63] iD fun v64 nE=>bd (aj v64 0) fun v66=>bd (aj v64 1) fun v67=>ak v67
 (bd (ldA nE v5 2) fun v68=>bd2
 (aN nE 1
 (ao (fun i=>some (i*2,2)) (List.replicate 1 [LV.str [],i64 0]).flatten
 [(0,v68)]))
 fun v69 st70=>bd2 (ar st70 2 24 Md.rw v69 v66) fun v71 st72=>R (LV.tup [v71,LV.bool true]) st72)
 (bd (ah BinOp.add x6 (i64 1)) fun v73=>b9 x2 x3 v73 x11 R nE)))
 (bd (ah BinOp.lss (i64 0) (i64 0)) fun v74=>ak v74
 (bd (ldA eQ v5 2) fun v75=>bd2 (aN eQ 1 (ao (fun i=>some (i*2,2)) (List.replicate 1 [LV.str [],i64 0]).flatten [(0,v75)])) fun v76 st77=>R (LV.tup [v76,LV.bool true]) st77)
 (bd (ad 1 x2) fun v78=>bd (ld1 eQ v78) fun v79=>bd (aK 4 v79 (i64 0)) fun v80=>bd (ldA eQ v80 4) fun v81=>bd (ad 5 x3) fun v82=>bd (ld1 eQ v82) fun v83=>bd (aK 7 v83 x6) fun v84=>bd (ldA eQ v84 7) fun v85=>LZ 134 [v81,v85] eQ fun v86 oF=>bd (aj v86 0) fun v88=>bd (aj v86 1) fun v89=>ak v89
 (bd (ldA oF v5 2) fun v90=>bd2
 (aN oF 1
 (ao (fun i=>some (i*2,2)) (List.replicate 1 [LV.str [],i64 0]).flatten [(0,v90)]))
 fun v91 st92=>bd2 (ar st92 2 24 Md.rw v91 v88) fun v93 st94=>R (LV.tup [v93,LV.bool true]) st94)
 (bd (ah BinOp.add x6 (i64 1)) fun v95=>b9 x2 x3 v95 x11 R oF)))))
 (bd (ad 0 x2) fun v96=>bd (ld1 gE v96) fun v97=>bd (ah BinOp.eql v97 (i64 7)) fun v98=>ak v98
 (bd (ah BinOp.lss x6 (i64 0)) fun v99=>ak v99
 (bd (ldA gE v5 2) fun v100=>bd2 (aN gE 1 (ao (fun i=>some (i*2,2)) (List.replicate 1 [LV.str [],i64 0]).flatten [(0,v100)])) fun v101 oR=>R (LV.tup [v101,LV.bool true]) oR)
 (bd (ad 1 x2) fun v103=>bd (ld1 gE v103) fun v104=>bd (aK 4 v104 x6) fun v105=>bd (ldA gE v105 4) fun v106=>bd (ad 5 x3) fun v107=>bd (ld1 gE v107) fun v108=>bd (aK 7 v108 x6) fun v109=>bd (ldA gE v109 7) fun v110=>LZ 134 [v106,v110] gE fun rW iF=>bd (aj rW 0) fun v113=>bd (aj rW 1) fun v114=>ak v114
 (bd (ldA iF v5 2) fun v115=>bd2 (aN iF 1 (ao (fun i=>some (i*2,2)) (List.replicate 1 [LV.str [],i64 0]).flatten [(0,v115)]))
 fun v116 aS=>bd2 (ar aS 2 24 Md.rw v116 v113) fun v118 aT=>R (LV.tup [v118,LV.bool true]) aT)
 (bd (ah BinOp.add x6 (i64 1)) fun v120=>b9 x2 x3 v120 x11 R iF)))
 (bd (ah BinOp.eql v97 (i64 8)) fun v121=>ak v121
 (bd (ldA gE x2 4) fun v122=>bd (ad 6 x3) fun v123=>bd (ld1 gE v123) fun v124=>bd (aK 1 v124 x6) fun v125=>bd (ld1 gE v125) fun v126=>LZ 135 [v122,v126] gE fun bY gT=>bd (ah BinOp.lss bY (i64 0)) fun v129=>ak v129
 (bd (ldA gT v5 2) fun v130=>bd2 (aN gT 1 (ao (fun i=>some (i*2,2)) (List.replicate 1 [LV.str [],i64 0]).flatten [(0,v130)])) fun v131 dO=>R (LV.tup [v131,LV.bool true]) dO)
 (bd (ad 1 x2) fun v133=>bd (ld1 gT v133) fun v134=>bd (aK 4 v134 bY) fun v135=>bd (ldA gT v135 4) fun v136=>bd (ad 5 x3) fun v137=>bd (ld1 gT v137) fun v138=>bd (aK 7 v138 x6) fun v139=>bd (ldA gT v139 7) fun v140=>LZ 134 [v136,v140] gT fun lE iN=>bd (aj lE 0) fun v143=>bd (aj lE 1) fun v144=>ak v144
 (bd (ldA iN v5 2) fun v145=>bd2
 (aN iN 1
 (ao (fun i=>some (i*2,2)) (List.replicate 1 [LV.str [],i64 0]).flatten [(0,v145)]))
 fun v146 lT=>bd2 (ar lT 2 24 Md.rw v146 v143) fun v148 p7=>R (LV.tup [v148,LV.bool true]) p7)
 (bd (ah BinOp.add x6 (i64 1)) fun v150=>b9 x2 x3 v150 x11 R iN)))
 (bd (ah BinOp.lss (i64 0) (i64 0)) fun v151=>ak v151
 (bd (ldA gE v5 2) fun v152=>bd2 (aN gE 1 (ao (fun i=>some (i*2,2)) (List.replicate 1 [LV.str [],i64 0]).flatten [(0,v152)])) fun v153 p8=>R (LV.tup [v153,LV.bool true]) p8)
 (bd (ad 1 x2) fun v155=>bd (ld1 gE v155) fun v156=>bd (aK 4 v156 (i64 0)) fun v157=>bd (ldA gE v157 4) fun v158=>bd (ad 5 x3) fun v159=>bd (ld1 gE v159) fun v160=>bd (aK 7 v160 x6) fun v161=>bd (ldA gE v161 7) fun v162=>LZ 134 [v158,v162] gE fun p9 iS=>bd (aj p9 0) fun v165=>bd (aj p9 1) fun v166=>ak v166
 (bd (ldA iS v5 2) fun v167=>bd2 (aN iS 1 (ao (fun i=>some (i*2,2)) (List.replicate 1 [LV.str [],i64 0]).flatten [(0,v167)]))
 fun v168 tO=>bd2 (ar tO 2 24 Md.rw v168 v165) fun v170 st171=>R (LV.tup [v170,LV.bool true]) st171)
 (bd (ah BinOp.add x6 (i64 1)) fun v172=>b9 x2 x3 v172 x11 R iS))))))
 (oo x2 x3 x6 (i64 0) R st)
theorem C5 (x2 x3 x6 x11:LV) {R:LV.RT} {st:aa} (h:wh x2 x3 x6 x11 R st):b9 x2 x3 x6 x11 R st:=
 pz Hs [] h
def wi (x2 x3 x6 x11:LV) (R:LV.RT) (st:aa):Prop:=
 bd (ad 2 x2) fun v0=>bd (ld1 st v0) fun v1=>bd (bg v1) fun v2=>bd (ah BinOp.lss x11 v2) fun v3=>ak v3
 (bd (ad 3 x2) fun v4=>bd (ld1 st v4) fun v5=>bd (aK 1 v5 x11) fun v6=>bd (ld1 st v6) fun v7=>bd (lun UnOp.not v7) fun v8=>ak v8
 (bd (ldA st x3 7) fun v9=>bd (ad 2 x2) fun gT=>bd (ld1 st gT) fun iD=>bd (aK 1 iD x11) fun iF=>bd (ld1 st iF) fun iN=>LZ 112 [v9,iN] st fun iS eQ=>bd (ah BinOp.lss iS (i64 0)) fun mK=>ak mK
 (bd (ad 2 x2) fun nE=>bd (ld1 eQ nE) fun oF=>bd (aK 1 oF x11) fun oR=>bd (ld1 eQ oR) fun rW=>bd (aP (ao (aA [(0,1),(1,1)]) [LV.str [],i64 0] [(0,rW),(1,i64 (-1))])) fun aS=>bd2 (aN eQ 1 (ao (fun i=>some (i*2,2)) (List.replicate 1 [LV.str [],i64 0]).flatten [(0,aS)])) fun aT gE=>R (LV.tup [aT,LV.bool true]) gE)
 (bd (ah BinOp.add x11 (i64 1)) fun bY=>oo x2 x3 x6 bY R eQ))
 (bd (ah BinOp.add x11 (i64 1)) fun dO=>oo x2 x3 x6 dO R st))
 (R (LV.tup [LV.nils,LV.bool false]) st)
theorem C6 (x2 x3 x6 x11:LV) {R:LV.RT} {st:aa} (h:wi x2 x3 x6 x11 R st):oo x2 x3 x6 x11 R st:=
 pz Hs [] h
def wj (x1 x2 x5:LV) (R:LV.RT) (st:aa):Prop:=LTg Tryz.prog (kindOf false) [.tmp 4] (aW Tryz.f135 3) [] R (.aL::x1::x2::.aL::.aL::x5::(LV.jk 15 [])) st
def Kt:List Nat:=(LV.gx 0 21 [1,2,5])
def NQ (a0 a1:LV) (R:LV.RT) (st:aa):Prop:=
 bd2 (ca st a0) fun v0 eQ=>wj a1 v0 (i64 0) R eQ
theorem OP (a0 a1:LV) {R:LV.RT} {st:aa} (h:NQ a0 a1 R st):LZ 135 [a0,a1] st R:=
 cz Kt [] [.tmp 4] Tryz.func135 h
def A9 (x1 x2 x5:LV) (R:LV.RT) (st:aa):Prop:=
 bd (ad 2 x2) fun v0=>bd (ld1 st v0) fun v1=>bd (bg v1) fun v2=>bd (ah BinOp.lss x5 v2) fun v3=>ak v3
 (bd (ad 2 x2) fun v4=>bd (ld1 st v4) fun v5=>bd (aK 1 v5 x5) fun v6=>bd (ld1 st v6) fun v7=>bd (bE BinOp.eql v7 x1) fun v8=>ak v8 (R x5 st) (bd (ah BinOp.add x5 (i64 1)) fun v9=>wj x1 x2 v9 R st))
 (R (i64 (-1)) st)
theorem Ht (x1 x2 x5:LV) {R:LV.RT} {st:aa} (h:A9 x1 x2 x5 R st):wj x1 x2 x5 R st:=
 pz Kt [] h
end Go.Proofs.YtknegckgmklnhaaGreatDoor
