/- Parts of the proof. -/
import Derived.Test.YtknegckgmklnhaaGreatDoorVbW
namespace Go.Proofs.YtknegckgmklnhaaGreatDoor
open Go Go.CP
set_option maxRecDepth 100000
def Je (x2 x3:LV) (R:LV.RT) (st:aa):Prop:=LTg Tryz.prog (kindOf false) [.cell 2 29,.cell 3 123] (br Tryz.f161 5) [] R (.aY::.aY::x2::x3::(LV.jk 28 [])) st
def yb (x2 x3:LV) (R:LV.RT) (st:aa):Prop:=LTg Tryz.prog (kindOf false) [.cell 2 29,.cell 3 123] (br Tryz.f161 6) [] R (.aY::.aY::x2::x3::(LV.jk 28 [])) st
def Jf:List (Nat × List Nat):=[(5,(LV.gx 0 32 [2,3])),(6,(LV.gx 0 32 [2,3]))]
def Qq (a0:LV) (R:LV.RT) (st:aa):Prop:=
 nw st [i64 0,LV.nils,LV.nils,LV.nils] fun v0 p9=>nw p9 [i64 0,i64 0] fun v2 bY=>bd (cm a0) fun v4=>bd (al BinOp.gtr v4 (i64 4096)) fun v5=>aq v5
 (bd (bh (aB (aF [(0,1),(1,1),(2,1),(3,1)]) [i64 0,LV.nils,LV.nils,LV.nils] [])) fun v6=>bd (bh (aB (aF [(0,1),(1,1)]) [i64 0,i64 0] [(0,i64 0),(1,i64 3)])) fun v7=>bd2 (lmk (stV bY 4 v0 v6)) fun _v8 tO=>bd2 (lmk (stV tO 2 v2 v7)) fun _ gT=>bd (ldA gT v0 4) fun v12=>bd (ldA gT v2 2) fun v13=>R (LV.tup [v12,v13]) gT)
 (LZ 196 [a0,i64 0,i64 0] bY fun dO iS=>bd (ai dO 0) fun v16=>bd (ai dO 1) fun v17=>nw iS [i64 0,LV.nils,LV.nils,LV.nils] fun mK nE=>nw nE [i64 0,i64 0] fun gE oF=>bd2 (lmk (stV oF 4 mK v16)) fun _v22 oR=>bd2 (lmk (stV oR 2 gE v17)) fun _v24 eQ=>bd (ag 1 gE) fun v26=>bd (ld1 eQ v26) fun v27=>bd (al BinOp.eql v27 (i64 0)) fun v28=>aq v28
 (bd (ag 0 gE) fun v29=>bd (ld1 eQ v29) fun v30=>bd (cm a0) fun v31=>bd (al BinOp.lss v30 v31) fun v32=>aq v32
 (bd (bh (aB (aF [(0,1),(1,1),(2,1),(3,1)]) [i64 0,LV.nils,LV.nils,LV.nils] [])) fun v33=>bd (ag 0 gE) fun lE=>bd (ld1 eQ lE) fun lT=>bd (bh (aB (aF [(0,1),(1,1)]) [i64 0,i64 0] [(0,lT),(1,i64 4)])) fun v36=>bd2 (lmk (stV eQ 4 v0 v33)) fun _v37 iD=>ld1 iD lE=some lT∧bd2 (lmk (stV iD 2 v2 v36)) fun _v39 rW=>Je v0 v2 R rW)
 (bd (ldA eQ mK 4) fun v41=>bd (ldA eQ gE 2) fun p7=>bd2 (lmk (stV eQ 4 v0 v41)) fun _v43 iF=>ldA iF gE 2=some p7∧bd2 (lmk (stV iF 2 v2 p7)) fun _v45 aS=>yb v0 v2 R aS))
 (bd (ldA eQ mK 4) fun v47=>bd (ldA eQ gE 2) fun p8=>bd2 (lmk (stV eQ 4 v0 v47)) fun _v49 iN=>ldA iN gE 2=some p8∧bd2 (lmk (stV iN 2 v2 p8)) fun _v51 aT=>yb v0 v2 R aT))
theorem Ru (a0:LV) {R:LV.RT} {st:aa} (h:Qq a0 R st):LZ 161 [a0] st R:=
 cz [] Jf [.cell 2 29,.cell 3 123] Tryz.func161 h
def Oo (x2 x3:LV) (R:LV.RT) (st:aa):Prop:=
 bd (ldA st x2 4) fun v0=>bd (ldA st x3 2) fun v1=>R (LV.tup [v0,v1]) st
theorem Oq (x2 x3:LV) {R:LV.RT} {st:aa} (h:Oo x2 x3 R st):Je x2 x3 R st:=
 pz [] Jf h
def Ot (x2 x3:LV) (R:LV.RT) (st:aa):Prop:=
 bd (ldA st x2 4) fun v0=>bd (ldA st x3 2) fun v1=>R (LV.tup [v0,v1]) st
theorem Ou (x2 x3:LV) {R:LV.RT} {st:aa} (h:Ot x2 x3 R st):yb x2 x3 R st:=
 pz [] Jf h
def uu (x0 x1 x2 x6 x7 x8 x9 x10 x11:LV) (R:LV.RT) (st:aa):Prop:=LTg Tryz.prog (kindOf false) [.cell 6 29,.cell 7 123] (br Tryz.f196 9) [] R (x0::x1::x2::(LV.jk 3 (x6::x7::x8::x9::x10::x11::(LV.jk 125 [])))) st
def r8 (x0 x1 x2 x6 x7 x8 x9 x10 x11:LV) (R:LV.RT) (st:aa):Prop:=LTg Tryz.prog (kindOf false) [.cell 6 29,.cell 7 123] (br Tryz.f196 14) [] R (x0::x1::x2::(LV.jk 3 (x6::x7::x8::x9::x10::x11::(LV.jk 125 [])))) st
def pA (x0 x1 x2 x6 x7 x8 x9 x10 x11 x67:LV) (R:LV.RT) (st:aa):Prop:=LTg Tryz.prog (kindOf false) [.cell 6 29,.cell 7 123] (br Tryz.f196 15) [] R (x0::x1::x2::(LV.jk 3 (x6::x7::x8::x9::x10::x11::(LV.jk 55 (x67::(LV.jk 69 [])))))) st
def ED (x6 x7:LV) (R:LV.RT) (st:aa):Prop:=LTg Tryz.prog (kindOf false) [.cell 6 29,.cell 7 123] (br Tryz.f196 26) [] R (LV.jk 6 (x6::x7::(LV.jk 129 []))) st
def EE (x6 x7:LV) (R:LV.RT) (st:aa):Prop:=LTg Tryz.prog (kindOf false) [.cell 6 29,.cell 7 123] (br Tryz.f196 28) [] R (LV.jk 6 (x6::x7::(LV.jk 129 []))) st
def EF (x6 x7:LV) (R:LV.RT) (st:aa):Prop:=LTg Tryz.prog (kindOf false) [.cell 6 29,.cell 7 123] (br Tryz.f196 29) [] R (LV.jk 6 (x6::x7::(LV.jk 129 []))) st
def uv:List Nat:=(LV.gx 3 134 [6,7,8,9,10,11])
def uw:List (Nat × List Nat):=[(11,(LV.gx 3 134 [6,7,8,9,10,11,67])),(21,(LV.gx 0 137 [6,7])),(23,(LV.gx 0 137 [6,7])),(24,(LV.gx 0 137 [6,7]))]
def Ov (a0 a1 a2:LV) (R:LV.RT) (st:aa):Prop:=
 nw st [i64 0,LV.nils,LV.nils,LV.nils] fun v0 dO=>nw dO [i64 0,i64 0] fun v2 aS=>bd (al BinOp.geq a2 (i64 8)) fun v4=>aq v4
 (bd (bh (aB (aF [(0,1),(1,1),(2,1),(3,1)]) [i64 0,LV.nils,LV.nils,LV.nils] [])) fun v5=>bd (bh (aB (aF [(0,1),(1,1)]) [i64 0,i64 0] [(0,a1),(1,i64 3)])) fun v6=>bd2 (lmk (stV aS 4 v0 v5)) fun _v7 lE=>bd2 (lmk (stV lE 2 v2 v6)) fun _v9 eQ=>bd (ldA eQ v0 4) fun lT=>bd (ldA eQ v2 2) fun p7=>R (LV.tup [lT,p7]) eQ)
 (LZ 243 [a0,a1] aS fun p8 iD=>bd (al BinOp.eql p8 (i64 91)) fun p9=>aq p9
 (LZ 243 [a0,a1] iD fun tO iN=>bd (al BinOp.eql tO (i64 123)) fun v18=>LZ 244 [a0,a1,a2,v18] iN fun aT iS=>bd (ai aT 0) fun v21=>bd (ai aT 1) fun v22=>bd2 (lmk (stV iS 4 v0 v21)) fun _v23 mK=>bd2 (lmk (stV mK 2 v2 v22)) fun _v25 gE=>bd (ldA gE v0 4) fun v27=>bd (ldA gE v2 2) fun v28=>R (LV.tup [v27,v28]) gE)
 (LZ 243 [a0,a1] iD fun v29 iF=>bd (al BinOp.eql v29 (i64 123)) fun v31=>aq v31
 (LZ 243 [a0,a1] iF fun v32 nE=>bd (al BinOp.eql v32 (i64 123)) fun v34=>LZ 244 [a0,a1,a2,v34] nE fun bY oF=>bd (ai bY 0) fun v37=>bd (ai bY 1) fun v38=>bd2 (lmk (stV oF 4 v0 v37)) fun _v39 oR=>bd2 (lmk (stV oR 2 v2 v38)) fun _v41 gT=>bd (ldA gT v0 4) fun v43=>bd (ldA gT v2 2) fun v44=>R (LV.tup [v43,v44]) gT)
 (bd2
 (cq iF 7
 (aB (fun i=>some (i*1,1)) (List.replicate 7 [LV.str []]).flatten
 [(0,LV.str [97,110,121]),(1,LV.str [98,111,111,108]),(2,LV.str [105,110,116]),(3,LV.str [112,111,105,110,116]),(4,LV.str [116,101,120,116]),
 (5,LV.str [108,105,115,116]),(6,LV.str [109,97,112])]))
 fun v45 rW=>uu a0 a1 a2 v0 v2 v45 (i64 0) (i64 0) (LV.tup []) R rW)))
theorem c196 (a0 a1 a2:LV) {R:LV.RT} {st:aa} (h:Ov a0 a1 a2 R st):LZ 196 [a0,a1,a2] st R:=
 cz uv uw [.cell 6 29,.cell 7 123] Tryz.func196 h
def CK (x0 x1 x2 x6 x7 x8 x9 x10:LV) (_x11:LV) (R:LV.RT) (st:aa):Prop:=
 bd (bB x8) fun v0=>bd (al BinOp.lss x10 v0) fun v1=>aq v1 (r8 x0 x1 x2 x6 x7 x8 x9 x10 (i64 0) R st)
 (bd (bh (aB (aF [(0,1),(1,1),(2,1),(3,1)]) [i64 0,LV.nils,LV.nils,LV.nils] [])) fun v2=>bd (al BinOp.add x1 x9) fun v3=>bd (bh (aB (aF [(0,1),(1,1)]) [i64 0,i64 0] [(0,v3),(1,i64 4)])) fun v4=>bd2 (lmk (stV st 4 x6 v2)) fun _ gE=>bd2 (lmk (stV gE 2 x7 v4)) fun _ eQ=>bd (ldA eQ x6 4) fun v9=>bd (ldA eQ x7 2) fun gT=>R (LV.tup [v9,gT]) eQ)
theorem Jg (x0 x1 x2 x6 x7 x8 x9 x10 x11:LV) {R:LV.RT} {st:aa} (h:CK x0 x1 x2 x6 x7 x8 x9 x10 x11 R st):uu x0 x1 x2 x6 x7 x8 x9 x10 x11 R st:=
 pz uv uw h
def yc (x0 x1 x2 x6 x7 x8 x9 x10 x11:LV) (R:LV.RT) (st:aa):Prop:=
 bd (bn 1 x8 x10) fun v0=>bd (ld1 st v0) fun v1=>bd (cm v1) fun v2=>bd (al BinOp.lss x11 v2) fun v3=>aq v3
 (bd (al BinOp.add x1 x11) fun v4=>bd (bn 1 x8 x10) fun v5=>bd (ld1 st v5) fun v6=>bd (dJ v6 x11) fun v7=>bd (gR IntKind.i64 v7) fun v8=>LZ 243 [x0,v4] st fun v9 eQ=>ld1 eQ v5=some v6∧bd (al BinOp.eql v9 v8) fun gE=>pA x0 x1 x2 x6 x7 x8 x9 x10 x11 gE R eQ)
 (pA x0 x1 x2 x6 x7 x8 x9 x10 x11 (LV.bool false) R st)
theorem EG (x0 x1 x2 x6 x7 x8 x9 x10 x11:LV) {R:LV.RT} {st:aa} (h:yc x0 x1 x2 x6 x7 x8 x9 x10 x11 R st):r8 x0 x1 x2 x6 x7 x8 x9 x10 x11 R st:=
 pz uv uw h
def r9 (x0 x1 x2 x6 x7 x8 x9 x10 x11 x67:LV) (R:LV.RT) (st:aa):Prop:=
 aq x67 (bd (al BinOp.add x11 (i64 1)) fun v0=>r8 x0 x1 x2 x6 x7 x8 x9 x10 v0 R st)
 (bd (iw [x9,x11]) fun v1=>bd (bn 1 x8 x10) fun v2=>bd (ld1 st v2) fun v3=>bd (cm v3) fun v4=>bd (al BinOp.lss x11 v4) fun v5=>aq v5 (bd (al BinOp.add x10 (i64 1)) fun v6=>uu x0 x1 x2 x6 x7 x8 v1 v6 x11 R st)
 (bd (al BinOp.lss x10 (i64 5)) fun v7=>aq v7
 (bd (bh (aB (aF [(0,1),(1,1),(2,1),(3,1)]) [i64 0,LV.nils,LV.nils,LV.nils] [(0,x10)])) fun v8=>bd (al BinOp.add x1 x11) fun v9=>bd (bh (aB (aF [(0,1),(1,1)]) [i64 0,i64 0] [(0,v9),(1,i64 0)])) fun v10=>bd2 (lmk (stV st 4 x6 v8)) fun _v11 oR=>bd2 (lmk (stV oR 2 x7 v10)) fun _v13 gT=>bd (ldA gT x6 4) fun v15=>bd (ldA gT x7 2) fun v16=>R (LV.tup [v15,v16]) gT)
 (bd (al BinOp.add x1 x11) fun v17=>LZ 243 [x0,v17] st fun v18 iN=>bd (al BinOp.neq v18 (i64 40)) fun v20=>aq v20
 (bd (bh (aB (aF [(0,1),(1,1),(2,1),(3,1)]) [i64 0,LV.nils,LV.nils,LV.nils] [])) fun v21=>bd (al BinOp.add x1 x11) fun v22=>bd (bh (aB (aF [(0,1),(1,1)]) [i64 0,i64 0] [(0,v22),(1,i64 4)])) fun v23=>bd2 (lmk (stV iN 4 x6 v21)) fun _v24 rW=>bd2 (lmk (stV rW 2 x7 v23)) fun _v26 iD=>bd (ldA iD x6 4) fun v28=>bd (ldA iD x7 2) fun v29=>R (LV.tup [v28,v29]) iD)
 (bd (al BinOp.add x1 x11) fun v30=>bd (al BinOp.add v30 (i64 1)) fun v31=>bd (al BinOp.add x2 (i64 1)) fun v32=>LZ 196 [x0,v31,v32] iN fun tO aS=>bd (ai tO 0) fun v35=>bd (ai tO 1) fun v36=>nw aS [i64 0,LV.nils,LV.nils,LV.nils] fun v37 aT=>nw aT [i64 0,i64 0] fun iF bY=>bd2 (lmk (stV bY 4 v37 v35)) fun _v41 dO=>bd2 (lmk (stV dO 2 iF v36)) fun _v43 eQ=>bd (ag 1 iF) fun v45=>bd (ld1 eQ v45) fun v46=>bd (al BinOp.neq v46 (i64 0)) fun v47=>aq v47
 (bd (bh (aB (aF [(0,1),(1,1),(2,1),(3,1)]) [i64 0,LV.nils,LV.nils,LV.nils] [])) fun v48=>bd (ldA eQ iF 2) fun v49=>bd2 (lmk (stV eQ 4 x6 v48)) fun _v50 iS=>ldA iS iF 2=some v49∧bd2 (lmk (stV iS 2 x7 v49)) fun _v52 lE=>ED x6 x7 R lE)
 (bd (ag 0 iF) fun v54=>bd (ld1 eQ v54) fun v55=>LZ 243 [x0,v55] eQ fun v56 gE=>bd (al BinOp.neq v56 (i64 41)) fun v58=>aq v58
 (bd (bh (aB (aF [(0,1),(1,1),(2,1),(3,1)]) [i64 0,LV.nils,LV.nils,LV.nils] [])) fun v59=>bd (ag 0 iF) fun v60=>bd (ld1 gE v60) fun v61=>bd (bh (aB (aF [(0,1),(1,1)]) [i64 0,i64 0] [(0,v61),(1,i64 4)]))
 fun v62=>bd2 (lmk (stV gE 4 x6 v59)) fun _v63 mK=>ld1 mK v60=some v61∧bd2 (lmk (stV mK 2 x7 v62)) fun _v65 lT=>EE x6 x7 R lT)
 (bd (ldA gE v37 4) fun v67=>bd (ag 0 iF) fun p7=>bd (ld1 gE p7) fun p8=>bd (al BinOp.add p8 (i64 1)) fun v70=>bd (bh (aB (aF [(0,1),(1,1)]) [i64 0,i64 0] [(0,v70),(1,i64 0)]))
 fun v71=>bd2
 (cq gE 1
 (aB (fun i=>some (i*4,4)) (List.replicate 1 [i64 0,LV.nils,LV.nils,LV.nils]).flatten
 [(0,v67)]))
 fun v72 nE=>ld1 nE p7=some p8∧
 bd
 (bh
 (aB (aF [(0,1),(1,1),(2,1),(3,1)]) [i64 0,LV.nils,LV.nils,LV.nils]
 [(0,x10),(1,v72)]))
 fun v74=>bd2 (lmk (stV nE 4 x6 v74)) fun _v75 oF=>ld1 oF p7=some p8∧bd2 (lmk (stV oF 2 x7 v71)) fun _v77 p9=>EF x6 x7 R p9))))))
theorem yd (x0 x1 x2 x6 x7 x8 x9 x10 x11 x67:LV) {R:LV.RT} {st:aa} (h:r9 x0 x1 x2 x6 x7 x8 x9 x10 x11 x67 R st):pA x0 x1 x2 x6 x7 x8 x9 x10 x11 x67 R st:=
 pz uv uw h
def K5 (x6 x7:LV) (R:LV.RT) (st:aa):Prop:=
 bd (ldA st x6 4) fun v0=>bd (ldA st x7 2) fun v1=>R (LV.tup [v0,v1]) st
theorem K6 (x6 x7:LV) {R:LV.RT} {st:aa} (h:K5 x6 x7 R st):ED x6 x7 R st:=
 pz uv uw h
def K7 (x6 x7:LV) (R:LV.RT) (st:aa):Prop:=
 bd (ldA st x6 4) fun v0=>bd (ldA st x7 2) fun v1=>R (LV.tup [v0,v1]) st
theorem K8 (x6 x7:LV) {R:LV.RT} {st:aa} (h:K7 x6 x7 R st):EE x6 x7 R st:=
 pz uv uw h
def K9 (x6 x7:LV) (R:LV.RT) (st:aa):Prop:=
 bd (ldA st x6 4) fun v0=>bd (ldA st x7 2) fun v1=>R (LV.tup [v0,v1]) st
theorem La (x6 x7:LV) {R:LV.RT} {st:aa} (h:K9 x6 x7 R st):EF x6 x7 R st:=
 pz uv uw h
def Qr (a0 a1:LV) (R:LV.RT) (st:aa):Prop:=
 bd (cm a0) fun v0=>bd (al BinOp.geq a1 v0) fun v1=>aq v1 (R (i64 (-1)) st) (bd (dJ a0 a1) fun v2=>bd (gR IntKind.i64 v2) fun v3=>R v3 st)
theorem Rv (a0 a1:LV) {R:LV.RT} {st:aa} (h:Qr a0 a1 R st):LZ 243 [a0,a1] st R:=
 cz [] [] [.tmp 4] Tryz.func243 h
def nt (x1 x4 x5:LV) (R:LV.RT) (st:aa):Prop:=LTg Tryz.prog (kindOf false) [.cell 4 123] (br Tryz.f77 2) [] R (.aY::x1::.aY::.aY::x4::x5::(LV.jk 49 [])) st
def rr (x0 x1 x4 x5:LV) (R:LV.RT) (st:aa):Prop:=LTg Tryz.prog (kindOf false) [.cell 4 123] (br Tryz.f77 3) [] R (x0::x1::.aY::.aY::x4::x5::(LV.jk 49 [])) st
def Ow:List Nat:=(LV.gx 2 53 [4,5])
def Ox:List (Nat × List Nat):=[(0,[0,2,3,6,7,8,9,10,11,12,13,14,15,16,17,18,19,20,21,22,23,24,25,26,27,28,29,30,31,32,33,34,35,36,37,38,39,40,41,42,43,44,45,46,47,48,49,50,51,52,53,54])]
def w77 (a0 a1:LV) (R:LV.RT) (st:aa):Prop:=
 nw st [i64 0,i64 0] fun v0 eQ=>rr a0 a1 v0 a1 R eQ
theorem c77 (a0 a1:LV) {R:LV.RT} {st:aa} (h:w77 a0 a1 R st):LZ 77 [a0,a1] st R:=
 aw.ofE (gl:=Ow) (cuts:=Ox) (rc:=[]) (n:=3000) aJ Tryz.func77 (show Tryz.f77.body=some (bG Tryz.f77) by kernel_rfl) (by kernel_rfl) (show Tryz.f77.results.toList=[.cell 4 123] by kernel_rfl) (by kernel_rfl) h
def MI (x1 x4 x5:LV) (R:LV.RT) (st:aa):Prop:=
 bd (al BinOp.eql x5 x1) fun v0=>aq v0
 (bd (bh (aB (aF [(0,1),(1,1)]) [i64 0,i64 0] [(0,x1),(1,i64 4)])) fun v1=>bd2 (lmk (stV st 2 x4 v1)) fun _ gE=>bd (ldA gE x4 2) fun v4=>R v4 gE)
 (bd (al BinOp.sub x5 x1) fun v5=>bd (al BinOp.gtr v5 (i64 20)) fun v6=>aq v6
 (bd (bh (aB (aF [(0,1),(1,1)]) [i64 0,i64 0] [(0,x1),(1,i64 7)])) fun v7=>bd2 (lmk (stV st 2 x4 v7)) fun _ gT=>bd (ldA gT x4 2) fun iD=>R iD gT)
 (bd (bh (aB (aF [(0,1),(1,1)]) [i64 0,i64 0] [(0,x5),(1,i64 0)])) fun iF=>bd2 (lmk (stV st 2 x4 iF)) fun _ eQ=>bd (ldA eQ x4 2) fun iN=>R iN eQ))
theorem Qs (x1 x4 x5:LV) {R:LV.RT} {st:aa} (h:MI x1 x4 x5 R st):nt x1 x4 x5 R st:=
 LTg.atE (gl:=Ow) (cuts:=Ox) (rc:=[]) (n:=3000) aJ (by kernel_rfl) h
def Jh (x0 x1 x4 x5:LV) (R:LV.RT) (st:aa):Prop:=
 bd (cm x0) fun v0=>bd (al BinOp.lss x5 v0) fun v1=>aq v1
 (bd (dJ x0 x5) fun v2=>bd (al BinOp.geq v2 (LV.int IntKind.u8 97)) fun v3=>aq v3
 (bd (dJ x0 x5) fun v4=>bd (al BinOp.leq v4 (LV.int IntKind.u8 122)) fun v5=>aq v5 (bd (al BinOp.add x5 (i64 1)) fun v6=>rr x0 x1 x4 v6 R st)
 (bd (al BinOp.gtr x5 x1) fun v7=>aq v7
 (bd (dJ x0 x5) fun v8=>bd (al BinOp.geq v8 (LV.int IntKind.u8 48)) fun v9=>aq v9
 (bd (dJ x0 x5) fun eQ=>bd (al BinOp.leq eQ (LV.int IntKind.u8 57)) fun gE=>aq gE (bd (al BinOp.add x5 (i64 1)) fun gT=>rr x0 x1 x4 gT R st) (nt x1 x4 x5 R st))
 (nt x1 x4 x5 R st))
 (nt x1 x4 x5 R st)))
 (bd (al BinOp.gtr x5 x1) fun iD=>aq iD
 (bd (dJ x0 x5) fun iF=>bd (al BinOp.geq iF (LV.int IntKind.u8 48)) fun iN=>aq iN
 (bd (dJ x0 x5) fun iS=>bd (al BinOp.leq iS (LV.int IntKind.u8 57)) fun mK=>aq mK (bd (al BinOp.add x5 (i64 1)) fun nE=>rr x0 x1 x4 nE R st) (nt x1 x4 x5 R st))
 (nt x1 x4 x5 R st))
 (nt x1 x4 x5 R st)))
 (nt x1 x4 x5 R st)
theorem MJ (x0 x1 x4 x5:LV) {R:LV.RT} {st:aa} (h:Jh x0 x1 x4 x5 R st):rr x0 x1 x4 x5 R st:=
 LTg.atE (gl:=Ow) (cuts:=Ox) (rc:=[]) (n:=3000) aJ (by kernel_rfl) h
def gN (x0 x1 x2 x3 x8 x9 x10 x11:LV) (R:LV.RT) (st:aa):Prop:=LTg Tryz.prog (kindOf false) [.cell 8 29,.cell 9 123] (br Tryz.f244 10) [] R (x0::x1::x2::x3::(LV.jk 4 (x8::x9::x10::x11::(LV.jk 145 [])))) st
def EH (x0 x1 x2 x3 x8 x9 x10 x11 x40:LV) (R:LV.RT) (st:aa):Prop:=LTg Tryz.prog (kindOf false) [.cell 8 29,.cell 9 123] (br Tryz.f244 14) [] R (x0::x1::x2::x3::(LV.jk 4 (x8::x9::x10::x11::(LV.jk 28 (x40::(LV.jk 116 [])))))) st
def EI (x8 x9:LV) (R:LV.RT) (st:aa):Prop:=LTg Tryz.prog (kindOf false) [.cell 8 29,.cell 9 123] (br Tryz.f244 17) [] R (LV.jk 8 (x8::x9::(LV.jk 147 []))) st
def EJ (x8 x9:LV) (R:LV.RT) (st:aa):Prop:=LTg Tryz.prog (kindOf false) [.cell 8 29,.cell 9 123] (br Tryz.f244 21) [] R (LV.jk 8 (x8::x9::(LV.jk 147 []))) st
def pB (x0 x1 x2 x3 x8 x9 x10 x11 x13 x15:LV) (R:LV.RT) (st:aa):Prop:=LTg Tryz.prog (kindOf false) [.cell 8 29,.cell 9 123] (br Tryz.f244 25) [] R (x0::x1::x2::x3::(LV.jk 4 (x8::x9::x10::x11::.aY::x13::.aY::x15::(LV.jk 141 [])))) st
def sd (x8 x9:LV) (R:LV.RT) (st:aa):Prop:=LTg Tryz.prog (kindOf false) [.cell 8 29,.cell 9 123] (br Tryz.f244 29) [] R (LV.jk 8 (x8::x9::(LV.jk 147 []))) st
def kT (x0 x1 x2 x3 x8 x9 x10 x11:LV) (R:LV.RT) (st:aa):Prop:=LTg Tryz.prog (kindOf false) [.cell 8 29,.cell 9 123] (br Tryz.f244 32) [] R (x0::x1::x2::x3::(LV.jk 4 (x8::x9::x10::x11::(LV.jk 145 [])))) st
def ye (x8 x9:LV) (R:LV.RT) (st:aa):Prop:=LTg Tryz.prog (kindOf false) [.cell 8 29,.cell 9 123] (br Tryz.f244 35) [] R (LV.jk 8 (x8::x9::(LV.jk 147 []))) st
def pC:List Nat:=(LV.gx 4 153 [8,9,10,11])
def pD:List (Nat × List Nat):=[(11,(LV.gx 4 153 [8,9,10,11,40])),(14,(LV.gx 0 157 [8,9])),(18,(LV.gx 0 157 [8,9])),(22,(LV.gx 4 153 [8,9,10,11,13,15])),(26,(LV.gx 0 157 [8,9])),(29,(LV.gx 4 153 [8,9,10,11])),(32,(LV.gx 0 157 [8,9]))]
def Qt (a0 a1 a2 a3:LV) (R:LV.RT) (st:aa):Prop:=
 nw st [i64 0,LV.nils,LV.nils,LV.nils] fun v0 oR=>nw oR [i64 0,i64 0] fun v2 rW=>bd (bh (aB (aF [(0,1),(1,1),(2,1),(3,1)]) [i64 0,LV.nils,LV.nils,LV.nils] [(0,i64 7)])) fun v4=>nw rW [i64 0,LV.nils,LV.nils,LV.nils] fun v5 aS=>bd2 (lmk (stV aS 4 v5 v4)) fun _v7 oF=>aq a3
 (bd (ag 0 v5) fun v9=>bd2 (lmk (stV oF 1 v9 (i64 8))) fun _ iF=>bd (al BinOp.add a1 (i64 1)) fun iN=>LZ 243 [a0,iN] iF fun aT eQ=>bd (gR IntKind.i64 (LV.int IntKind.i32 125)) fun bY=>bd (al BinOp.eql aT bY) fun dO=>aq dO
 (bd (ldA eQ v5 4) fun lE=>bd (al BinOp.add iN (i64 1)) fun lT=>bd (bh (aB (aF [(0,1),(1,1)]) [i64 0,i64 0] [(0,lT),(1,i64 0)])) fun p7=>bd2 (lmk (stV eQ 4 v0 lE)) fun _ iS=>bd2 (lmk (stV iS 2 v2 p7)) fun _ gE=>bd (ldA gE v0 4) fun p8=>bd (ldA gE v2 2) fun p9=>R (LV.tup [p8,p9]) gE)
 (gN a0 iN a2 a3 v0 v2 v5 (LV.int IntKind.i32 125) R eQ))
 (bd (al BinOp.add a1 (i64 1)) fun mK=>LZ 243 [a0,mK] oF fun tO gT=>bd (gR IntKind.i64 (LV.int IntKind.i32 93)) fun v29=>bd (al BinOp.eql tO v29) fun v30=>aq v30
 (bd (ldA gT v5 4) fun v31=>bd (al BinOp.add mK (i64 1)) fun v32=>bd (bh (aB (aF [(0,1),(1,1)]) [i64 0,i64 0] [(0,v32),(1,i64 0)])) fun v33=>bd2 (lmk (stV gT 4 v0 v31)) fun _v34 nE=>bd2 (lmk (stV nE 2 v2 v33)) fun _v36 iD=>bd (ldA iD v0 4) fun v38=>bd (ldA iD v2 2) fun v39=>R (LV.tup [v38,v39]) iD)
 (gN a0 mK a2 a3 v0 v2 v5 (LV.int IntKind.i32 93) R gT))
theorem Rx (a0 a1 a2 a3:LV) {R:LV.RT} {st:aa} (h:Qt a0 a1 a2 a3 R st):LZ 244 [a0,a1,a2,a3] st R:=
 cz pC pD [.cell 8 29,.cell 9 123] Tryz.func244 h
def pE (x0 x1 x2 x3 x8 x9 x10 x11:LV) (R:LV.RT) (st:aa):Prop:=
 bd (ag 1 x10) fun v0=>bd (ld1 st v0) fun v1=>bd (bB v1) fun v2=>bd (al BinOp.eql v2 (i64 16)) fun v3=>aq v3
 (bd (ldA st x10 4) fun v4=>bd (bh (aB (aF [(0,1),(1,1)]) [i64 0,i64 0] [(0,x1),(1,i64 3)])) fun v5=>bd2 (lmk (stV st 4 x8 v4)) fun _ gE=>bd2 (lmk (stV gE 2 x9 v5)) fun _ eQ=>bd (ldA eQ x8 4) fun gT=>bd (ldA eQ x9 2) fun iD=>R (LV.tup [gT,iD]) eQ)
 (EH x0 x1 x2 x3 x8 x9 x10 x11 x3 R st)
theorem se (x0 x1 x2 x3 x8 x9 x10 x11:LV) {R:LV.RT} {st:aa} (h:pE x0 x1 x2 x3 x8 x9 x10 x11 R st):gN x0 x1 x2 x3 x8 x9 x10 x11 R st:=
 pz pC pD h
def mO (x10 iD x8 x9:LV) (gE:aa) (R:LV.RT):Prop:=
 bd (ldA gE x10 4) fun iF=>bd (bh (aB (aF [(0,1),(1,1)]) [i64 0,i64 0] [(0,iD),(1,i64 4)])) fun iN=>bd2 (lmk (stV gE 4 x8 iF)) fun _
 gT=>bd2 (lmk (stV gT 2 x9 iN)) fun _ eQ=>bd (ldA eQ x8 4) fun iS=>bd (ldA eQ x9 2) fun mK=>R (LV.tup [iS,mK]) eQ
def mP (iF x10 gE x1 x8 x9 v2 x0 x2 x3 x11:LV) (eQ:aa) (R:LV.RT):Prop:=
 bd (al BinOp.gtr iF (i64 0)) fun mK=>aq mK (bd (ag 2 x10) fun nE=>bd (ld1 eQ nE) fun oF=>bd (al BinOp.sub iF (i64 1)) fun oR=>bd (bn 1 oF oR) fun rW=>bd
 (ld1 eQ rW) fun aS=>bd (ck BinOp.lss gE aS) fun aT=>aq aT (mO x10 x1 x8 x9 eQ R) (bd (ag 0 v2) fun bY=>bd (ld1 eQ bY) fun iN=>LZ 243 [x0,iN] eQ fun dO gT=>bd (al
 BinOp.eql dO (i64 63)) fun lE=>pB x0 iN x2 x3 x8 x9 x10 x11 gE lE R gT)) (bd (ag 0 v2) fun lT=>bd (ld1 eQ lT) fun iS=>LZ 243 [x0,iS] eQ fun p7 iD=>bd (al
 BinOp.eql p7 (i64 63)) fun p8=>pB x0 iS x2 x3 x8 x9 x10 x11 gE p8 R iD)
def yf (x0 x1 x2 x3 x8 x9 x10 x11 x40:LV) (R:LV.RT) (st:aa):Prop:=
 aq x40 (LZ 77 [x0,x1] st fun v0 st1=>nw st1 [i64 0,i64 0] fun v2 st3=>bd2 (lmk (stV st3 2 v2 v0)) fun _v4 gE=>bd (ag 1 v2) fun v6=>bd (ld1 gE v6) fun v7=>bd
 (al BinOp.neq v7 (i64 0)) fun v8=>aq v8 (bd (ldA gE x10 4) fun v9=>bd (ldA gE v2 2) fun v10=>bd2 (lmk (stV gE 4 x8 v9)) fun _v11 nE=>ldA nE v2 2=some v10∧bd2 (lmk (stV nE 2 x9
 v10)) fun _v13 lE=>EI x8 x9 R lE) (bd (ag 0 v2) fun v15=>bd (ld1 gE v15) fun v16=>bd (ob3 (some x1) (some v16) none fun l h m=>dm x0 l h m) fun lT=>bd (ag 2 x10) fun v18=>bd (ld1 gE v18)
 fun v19=>bd (bB v19) fun dO=>bd (al BinOp.gtr dO (i64 0)) fun v21=>aq v21 (bd (ag 2 x10) fun v22=>bd (ld1 gE v22) fun v23=>bd (al BinOp.sub dO (i64 1)) fun v24=>bd (bn 1 v23 v24) fun v25=>bd (ld1 gE v25) fun v26=>bd (ck BinOp.eql lT v26) fun v27=>aq v27 (bd (ldA gE x10 4) fun v28=>bd (bh (aB (aF [(0,1),(1,1)]) [i64 0,LV.int
 IntKind.i64 0] [(0,x1),(1,i64 9)])) fun v29=>bd2 (lmk (stV gE 4 x8 v28)) fun _v30 p7=>bd2 (lmk (stV p7 2 x9 v29)) fun _v32 p8=>EJ x8 x9 R p8) (mP dO x10 lT x1 x8 x9 v2 x0
 x2 x3 x11 gE R)) (mP dO x10 lT x1 x8 x9 v2 x0 x2 x3 x11 gE R))) (bd (al BinOp.add x2 (i64 1)) fun v84=>LZ 196 [x0,x1,v84] st fun v85 p9=>bd (ai v85 0) fun v87=>bd (ai v85 1) fun v88=>nw p9 [i64 0,LV.nils,LV.nils,LV.nils] fun v89 tO=>nw tO [i64 0,i64 0] fun oF st92=>bd2 (lmk (stV st92 4 v89 v87)) fun _v93 st94
 => bd2 (lmk (stV st94 2 oF v88)) fun _v95 eQ=>bd (ag 1 oF) fun v97=>bd (ld1 eQ v97) fun v98=>bd (al BinOp.neq v98 (i64 0)) fun v99=>aq v99 (bd (ldA eQ x10 4) fun v100=>bd (ldA
 eQ oF 2) fun oR=>bd2 (lmk (stV eQ 4 x8 v100)) fun _v102 iN=>ldA iN oF 2=some oR∧bd2 (lmk (stV iN 2 x9 oR)) fun _v104 rW=>ye x8 x9 R rW) (bd (ag 1 x10) fun v106=>bd (ld1
 eQ v106) fun v107=>bd (ldA eQ v89 4) fun v108=>bd2 (cq eQ 1 (aB (fun i=>some (i*4,4)) (List.replicate 1 [i64 0,LV.nils,LV.nils,LV.nils]).flatten [(0,v108)])) fun v109 aS=>bd2
 (bo aS 4 80 Md.rw v107 v109) fun v111 aT=>bd (ag 1 x10) fun v113=>bd2 (lmk (stV aT 1 v113 v111)) fun _v114 iS=>bd (ag 0 oF) fun v116=>bd (ld1 iS v116) fun gT=>LZ 243
 [x0,gT] iS fun v118 iD=>bd (gR IntKind.i64 x11) fun v120=>bd (al BinOp.eql v118 v120) fun v121=>aq v121 (bd (ldA iD x10 4) fun v122=>bd (al BinOp.add gT (i64 1)) fun v123=>bd (bh (aB (aF [(0,1),(1,1)]) [i64 0,i64 0] [(0,v123),(1,i64 0)])) fun v124=>bd2 (lmk (stV iD 4 x8 v122)) fun _v125 bY=>bd2 (lmk (stV bY 2 x9
 v124)) fun _v127 iF=>bd (ldA iF x8 4) fun v129=>bd (ldA iF x9 2) fun v130=>R (LV.tup [v129,v130]) iF) (LZ 243 [x0,gT] iD fun v131 mK=>bd (al BinOp.neq v131 (LV.int
 IntKind.i64 44)) fun v133=>aq v133 (mO x10 gT x8 x9 mK R) (bd (al BinOp.add gT (i64 1)) fun v142=>gN x0 v142 x2 x3 x8 x9 x10 x11 R mK))))
theorem EK (x0 x1 x2 x3 x8 x9 x10 x11 x40:LV) {R:LV.RT} {st:aa} (h:yf x0 x1 x2 x3 x8 x9 x10 x11 x40 R st):EH x0 x1 x2 x3 x8 x9 x10 x11 x40 R st:=
 pz pC pD h
def Lb (x8 x9:LV) (R:LV.RT) (st:aa):Prop:=
 bd (ldA st x8 4) fun v0=>bd (ldA st x9 2) fun v1=>R (LV.tup [v0,v1]) st
theorem Lc (x8 x9:LV) {R:LV.RT} {st:aa} (h:Lb x8 x9 R st):EI x8 x9 R st:=
 pz pC pD h
def Ld (x8 x9:LV) (R:LV.RT) (st:aa):Prop:=
 bd (ldA st x8 4) fun v0=>bd (ldA st x9 2) fun v1=>R (LV.tup [v0,v1]) st
theorem Lf (x8 x9:LV) {R:LV.RT} {st:aa} (h:Ld x8 x9 R st):EJ x8 x9 R st:=
 pz pC pD h
def yg (x0 x1 x2 x3 x8 x9 x10 x11 x13 x15:LV) (R:LV.RT) (st:aa):Prop:=
 aq x15
 (bd (al BinOp.add x1 (i64 1)) fun v0=>LZ 243 [x0,v0] st fun v1 iD=>bd (al BinOp.neq v1 (i64 58)) fun v3=>aq v3
 (bd (ldA iD x10 4) fun v4=>bd (bh (aB (aF [(0,1),(1,1)]) [i64 0,i64 0] [(0,v0),(1,i64 4)])) fun v5=>bd2 (lmk (stV iD 4 x8 v4)) fun _v6 lE=>bd2 (lmk (stV lE 2 x9 v5)) fun _v8 lT=>sd x8 x9 R lT)
 (bd (al BinOp.add v0 (i64 1)) fun p7=>bd (ag 2 x10) fun p8=>bd (ld1 iD p8) fun p9=>bd2 (cq iD 1 (aB (fun i=>some (i*1,1)) (List.replicate 1 [LV.str []]).flatten [(0,x13)])) fun tO iF=>bd2 (bo iF 1 16 Md.rw p9 tO) fun v15 iN=>bd (ag 2 x10) fun v17=>bd2 (lmk (stV iN 1 v17 v15)) fun _v18 gE=>bd (ag 3 x10) fun v20=>bd (ld1 gE v20) fun v21=>bd2 (cq gE 1 (aB (fun i=>some (i*1,1)) (List.replicate 1 [LV.bool false]).flatten [(0,x15)])) fun v22 iS=>bd2 (bo iS 1 1 Md.rw v21 v22) fun v24 mK=>bd (ag 3 x10) fun v26=>bd2 (lmk (stV mK 1 v26 v24)) fun _v27 nE=>kT x0 p7 x2 x3 x8 x9 x10 x11 R nE))
 (LZ 243 [x0,x1] st fun v29 eQ=>bd (al BinOp.neq v29 (i64 58)) fun v31=>aq v31
 (bd (ldA eQ x10 4) fun v32=>bd (bh (aB (aF [(0,1),(1,1)]) [i64 0,i64 0] [(0,x1),(1,i64 4)])) fun v33=>bd2 (lmk (stV eQ 4 x8 v32)) fun _v34 oF=>bd2 (lmk (stV oF 2 x9 v33)) fun _v36 oR=>sd x8 x9 R oR)
 (bd (al BinOp.add x1 (i64 1)) fun v38=>bd (ag 2 x10) fun v39=>bd (ld1 eQ v39) fun v40=>bd2 (cq eQ 1 (aB (fun i=>some (i*1,1)) (List.replicate 1 [LV.str []]).flatten [(0,x13)])) fun v41 rW=>bd2 (bo rW 1 16 Md.rw v40 v41) fun v43 aS=>bd (ag 2 x10) fun v45=>bd2 (lmk (stV aS 1 v45 v43)) fun _v46 gT=>bd (ag 3 x10) fun v48=>bd (ld1 gT v48) fun v49=>bd2 (cq gT 1 (aB (fun i=>some (i*1,1)) (List.replicate 1 [LV.bool false]).flatten [(0,x15)])) fun v50 aT=>bd2 (bo aT 1 1 Md.rw v49 v50) fun v52 bY=>bd (ag 3 x10) fun v54=>bd2 (lmk (stV bY 1 v54 v52)) fun _v55 dO=>kT x0 v38 x2 x3 x8 x9 x10 x11 R dO))
theorem Lg (x0 x1 x2 x3 x8 x9 x10 x11 x13 x15:LV) {R:LV.RT} {st:aa} (h:yg x0 x1 x2 x3 x8 x9 x10 x11 x13 x15 R st):pB x0 x1 x2 x3 x8 x9 x10 x11 x13 x15 R st:=
 pz pC pD h
def Lh (x8 x9:LV) (R:LV.RT) (st:aa):Prop:=
 bd (ldA st x8 4) fun v0=>bd (ldA st x9 2) fun v1=>R (LV.tup [v0,v1]) st
theorem Li (x8 x9:LV) {R:LV.RT} {st:aa} (h:Lh x8 x9 R st):sd x8 x9 R st:=
 pz pC pD h
def EL (x0 x1 x2 x3 x8 x9 x10 x11:LV) (R:LV.RT) (st:aa):Prop:=
 bd (al BinOp.add x2 (i64 1)) fun v0=>LZ 196 [x0,x1,v0] st fun v1 dO=>bd (ai v1 0) fun v3=>bd (ai v1 1) fun v4=>nw dO [i64 0,LV.nils,LV.nils,LV.nils] fun v5 lE=>nw lE [i64 0,i64 0] fun v7 lT=>bd2 (lmk (stV lT 4 v5 v3)) fun _v9 nE=>bd2 (lmk (stV nE 2 v7 v4)) fun _ eQ=>bd (ag 1 v7) fun p7=>bd (ld1 eQ p7) fun p8=>bd (al BinOp.neq p8 (i64 0)) fun p9=>aq p9
 (bd (ldA eQ x10 4) fun tO=>bd (ldA eQ v7 2) fun bY=>bd2 (lmk (stV eQ 4 x8 tO)) fun _ iN=>ldA iN v7 2=some bY∧bd2 (lmk (stV iN 2 x9 bY)) fun _ oF=>ye x8 x9 R oF)
 (bd (ag 1 x10) fun v22=>bd (ld1 eQ v22) fun v23=>bd (ldA eQ v5 4) fun v24=>bd2 (cq eQ 1 (aB (fun i=>some (i*4,4)) (List.replicate 1 [i64 0,LV.nils,LV.nils,LV.nils]).flatten [(0,v24)])) fun v25 oR=>bd2 (bo oR 4 80 Md.rw v23 v25) fun v27 rW=>bd (ag 1 x10) fun v29=>bd2 (lmk (stV rW 1 v29 v27)) fun _v30 iS=>bd (ag 0 v7) fun v32=>bd (ld1 iS v32) fun mK=>LZ 243 [x0,mK] iS fun v34 gE=>bd (gR IntKind.i64 x11) fun v36=>bd (al BinOp.eql v34 v36) fun v37=>aq v37
 (bd (ldA gE x10 4) fun v38=>bd (al BinOp.add mK (i64 1)) fun v39=>bd (bh (aB (aF [(0,1),(1,1)]) [i64 0,i64 0] [(0,v39),(1,i64 0)])) fun v40=>bd2 (lmk (stV gE 4 x8 v38)) fun _v41 aS=>bd2 (lmk (stV aS 2 x9 v40)) fun _v43 gT=>bd (ldA gT x8 4) fun v45=>bd (ldA gT x9 2) fun v46=>R (LV.tup [v45,v46]) gT)
 (LZ 243 [x0,mK] gE fun v47 iD=>bd (al BinOp.neq v47 (i64 44)) fun v49=>aq v49
 (bd (ldA iD x10 4) fun v50=>bd (bh (aB (aF [(0,1),(1,1)]) [i64 0,i64 0] [(0,mK),(1,i64 4)])) fun v51=>bd2 (lmk (stV iD 4 x8 v50)) fun _v52 aT=>bd2 (lmk (stV aT 2 x9 v51)) fun _v54 iF=>bd (ldA iF x8 4) fun v56=>bd (ldA iF x9 2) fun v57=>R (LV.tup [v56,v57]) iF)
 (bd (al BinOp.add mK (i64 1)) fun v58=>gN x0 v58 x2 x3 x8 x9 x10 x11 R iD)))
theorem Lj (x0 x1 x2 x3 x8 x9 x10 x11:LV) {R:LV.RT} {st:aa} (h:EL x0 x1 x2 x3 x8 x9 x10 x11 R st):kT x0 x1 x2 x3 x8 x9 x10 x11 R st:=
 pz pC pD h
def Lk (x8 x9:LV) (R:LV.RT) (st:aa):Prop:=
 bd (ldA st x8 4) fun v0=>bd (ldA st x9 2) fun v1=>R (LV.tup [v0,v1]) st
theorem EM (x8 x9:LV) {R:LV.RT} {st:aa} (h:Lk x8 x9 R st):ye x8 x9 R st:=
 pz pC pD h
def kU (x2 x3 x6 x11:LV) (R:LV.RT) (st:aa):Prop:=LTg Tryz.prog (kindOf false) [.tmp 4,.tmp 5] (br Tryz.f134 19) [] R (.aY::.aY::x2::x3::.aY::.aY::x6::(LV.jk 4 (x11::(LV.jk 150 [])))) st
def pF (x2 x3 x6 x11:LV) (R:LV.RT) (st:aa):Prop:=LTg Tryz.prog (kindOf false) [.tmp 4,.tmp 5] (br Tryz.f134 40) [] R (.aY::.aY::x2::x3::.aY::.aY::x6::(LV.jk 4 (x11::(LV.jk 150 [])))) st
def Ji:List Nat:=(LV.gx 0 162 [2,3,6,11])
def CL (gE v2 v0:LV) (eQ:aa) (R:LV.RT):Prop:=
 aq gE (bd (ag 0 v2) fun gT=>bd (ld1 eQ gT) fun iD=>bd (al BinOp.neq iD (i64 6)) fun iF=>aq iF (R (LV.tup [LV.nils,LV.bool true]) eQ) (bd (ag 0 v0) fun iN=>bd (ld1 eQ iN)
 fun iS=>bd (al BinOp.eql iS (i64 7)) fun mK=>aq mK (bd (ag 5 v2) fun nE=>bd (ld1 eQ nE) fun oF=>bd (bB oF) fun oR=>bd (ag 1 v0) fun rW=>bd (ld1 eQ rW) fun aS=>bd
 (bB aS) fun aT=>bd (al BinOp.neq oR aT) fun bY=>aq bY (R (LV.tup [LV.nils,LV.bool true]) eQ) (kU v0 v2 (i64 0) (LV.tup []) R eQ)) (kU v0 v2 (i64 0) (LV.tup [])
 R eQ))) (bd (ag 0 v2) fun dO=>bd (ld1 eQ dO) fun lE=>bd (al BinOp.neq lE (i64 7)) fun lT=>aq lT (R (LV.tup [LV.nils,LV.bool true]) eQ) (kU v0 v2 (i64 0) (LV.tup
 []) R eQ))
def yh (nE v2 v0 gT:LV) (eQ:aa) (R:LV.RT):Prop:=
 aq nE (bd (ag 0 v2) fun iD=>bd (ld1 eQ iD) fun iF=>bd (ag 0 v0) fun iN=>bd (ld1 eQ iN) fun iS=>bd2 (cq eQ 5 (aB (fun i=>some (i*1,1)) (List.replicate 5 [LV.int IntKind.i64
 0]).flatten [(0,i64 0),(1,i64 2),(2,i64 3),(3,i64 0),(4,i64 5)])) fun oF gE=>ld1 gE iN=some iS∧ld1 gE iD=some iF∧
 bd (bn 1 oF iS) fun oR=>bd (ld1 gE oR) fun rW=>bd (al BinOp.neq iF rW) fun aS=>R (LV.tup [LV.nils,aS]) gE) (bd (al BinOp.eql gT (i64 3)) fun aT=>aq aT (bd (ag 0 v2) fun
 bY=>bd (ld1 eQ bY) fun dO=>bd (al BinOp.neq dO (i64 4)) fun lE=>aq lE (bd (ag 0 v2) fun lT=>bd (ld1 eQ lT) fun p7=>bd (al BinOp.neq p7 (i64 3)) fun p8=>aq p8 (R (LV.tup [LV.nils,LV.bool true]) eQ) (bd (ag 2 v2) fun p9=>bd (ld1 eQ p9) fun tO=>bd (al BinOp.lss tO (i64 (-9007199254740992))) fun v31=>aq v31 (R (LV.tup [LV.nils,LV.bool
 true]) eQ) (bd (ag 2 v2) fun v32=>bd (ld1 eQ v32) fun v33=>bd (al BinOp.gtr v33 (i64 9007199254740992)) fun v34=>R (LV.tup [LV.nils,v34]) eQ))) (R (LV.tup [LV.nils,LV.bool false]) eQ))
 (bd (al BinOp.eql gT (i64 5)) fun mK=>aq mK (CL mK v2 v0 eQ R) (bd (al BinOp.eql gT (i64 7)) fun v52=>CL v52 v2 v0 eQ R)))
def Qu (a0 a1:LV) (R:LV.RT) (st:aa):Prop:=
 bd2 (cu st a0) fun v0 iN=>bd2 (cu iN a1) fun v2 eQ=>bd (ag 0 v2) fun v4=>bd (ld1 eQ v4) fun v5=>bd (al BinOp.lss v5 (i64 2)) fun v6=>aq v6 (R (LV.tup [LV.nils,LV.bool false])
 eQ) (bd (ag 0 v0) fun v7=>bd (ld1 eQ v7) fun v8=>bd (al BinOp.eql v8 (i64 0)) fun v9=>aq v9 (R (LV.tup [LV.nils,LV.bool false]) eQ) (bd (ag 0 v0) fun iS=>bd (ld1 eQ iS) fun gE=>bd (al BinOp.eql gE (i64 1)) fun iD=>aq iD (yh iD v2 v0 gE eQ R) (bd (al BinOp.eql gE (i64 2)) fun iF=>aq iF (yh iF v2 v0 gE eQ R) (bd (al BinOp.eql gE
 (i64 4)) fun gT=>yh gT v2 v0 gE eQ R))))
theorem Ry (a0 a1:LV) {R:LV.RT} {st:aa} (h:Qu a0 a1 R st):LZ 134 [a0,a1] st R:=
 cz Ji [] [.tmp 4,.tmp 5] Tryz.func134 h
def kg (v5:LV) (eQ:aa) (R:LV.RT):Prop:=
 bd (ldA eQ v5 2) fun gT=>bd2 (cq eQ 1 (aB (fun i=>some (i*2,2)) (List.replicate 1 [LV.str [],i64 0]).flatten [(0,gT)])) fun iD gE=>R (LV.tup [iD,LV.bool true]) gE
def kj (iN x3 x6 v5 x2 x11:LV) (eQ:aa) (R:LV.RT):Prop:=
 bd (ldA eQ iN 4) fun iS=>bd (ag 5 x3) fun mK=>bd (ld1 eQ mK) fun nE=>bd (bn 7 nE x6) fun oF=>bd (ldA eQ oF 7) fun oR=>LZ 134 [iS,oR] eQ fun iF gE=>bd (ai iF
 0) fun rW=>bd (ai iF 1) fun aS=>aq aS (bd (ldA gE v5 2) fun aT=>bd2 (cq gE 1 (aB (fun i=>some (i*2,2)) (List.replicate 1 [LV.str [],i64 0]).flatten [(0,aT)])) fun bY
 gT=>bd2 (bo gT 2 24 Md.rw bY rW) fun dO iD=>R (LV.tup [dO,LV.bool true]) iD) (bd (al BinOp.add x6 (i64 1)) fun lE=>kU x2 x3 lE x11 R gE)
def mQ (x2 x6 v5 x3 x11:LV) (eQ:aa) (R:LV.RT):Prop:=
 bd (ag 0 x2) fun iF=>bd (ld1 eQ iF) fun gT=>bd (al BinOp.eql gT (i64 7)) fun iN=>aq iN (bd (al BinOp.lss x6 (i64 0)) fun iS=>aq iS (kg v5 eQ R) (bd
 (ag 1 x2) fun mK=>bd (ld1 eQ mK) fun nE=>bd (bn 4 nE x6) fun oF=>kj oF x3 x6 v5 x2 x11 eQ R)) (bd (al BinOp.eql gT (i64 8)) fun oR=>aq oR (bd (ldA eQ x2 4) fun rW
 => bd (ag 6 x3) fun aS=>bd (ld1 eQ aS) fun aT=>bd (bn 1 aT x6) fun bY=>bd (ld1 eQ bY) fun dO=>LZ 135 [rW,dO] eQ fun iD gE=>bd (al BinOp.lss iD (i64 0))
 fun lE=>aq lE (kg v5 gE R) (bd (ag 1 x2) fun lT=>bd (ld1 gE lT) fun p7=>bd (bn 4 p7 iD) fun p8=>kj p8 x3 x6 v5 x2 x11 gE R)) (bd (al BinOp.lss (i64 0) (LV.int
 IntKind.i64 0)) fun p9=>aq p9 (kg v5 eQ R) (bd (ag 1 x2) fun tO=>bd (ld1 eQ tO) fun v79=>bd (bn 4 v79 (i64 0)) fun v80=>kj v80 x3 x6 v5 x2 x11 eQ R)))
def yi (x2 x3 x6 x11:LV) (R:LV.RT) (st:aa):Prop:=
 bd (ag 5 x3) fun v0=>bd (ld1 st v0) fun v1=>bd (bB v1) fun v2=>bd (al BinOp.lss x6 v2) fun v3=>aq v3 (bd (bh (aB (aF [(0,1),(1,1)]) [LV.str [],i64 0] [(1,x6)])) fun v4=>nw st [LV.str [],i64 0] fun v5 gT=>bd2 (lmk (stV gT 2 v5 v4)) fun _ eQ=>bd (ag 0 x3) fun v9=>bd (ld1 eQ v9) fun iD=>bd (al BinOp.eql iD (i64 7)) fun iF=>aq iF
 (bd (ag 6 x3) fun iN=>bd (ld1 eQ iN) fun iS=>bd (bn 1 iS x6) fun mK=>bd (ld1 eQ mK) fun nE=>bd (bh (aB (aF [(0,1),(1,1)]) [LV.str [],i64 0] [(0,nE),(1,LV.int
 IntKind.i64 (-1))])) fun oF=>bd2 (lmk (stV eQ 2 v5 oF)) fun _ gE=>mQ x2 x6 v5 x3 x11 gE R) (mQ x2 x6 v5 x3 x11 eQ R)) (pF x2 x3 x6 (i64 0) R st)
theorem EN (x2 x3 x6 x11:LV) {R:LV.RT} {st:aa} (h:yi x2 x3 x6 x11 R st):kU x2 x3 x6 x11 R st:=
 pz Ji [] h
def yj (x2 x3 x6 x11:LV) (R:LV.RT) (st:aa):Prop:=
 bd (ag 2 x2) fun v0=>bd (ld1 st v0) fun v1=>bd (bB v1) fun v2=>bd (al BinOp.lss x11 v2) fun v3=>aq v3
 (bd (ag 3 x2) fun v4=>bd (ld1 st v4) fun v5=>bd (bn 1 v5 x11) fun v6=>bd (ld1 st v6) fun v7=>bd (lun UnOp.not v7) fun v8=>aq v8
 (bd (ldA st x3 7) fun v9=>bd (ag 2 x2) fun gT=>bd (ld1 st gT) fun iD=>bd (bn 1 iD x11) fun iF=>bd (ld1 st iF) fun iN=>LZ 112 [v9,iN] st fun iS eQ=>bd (al BinOp.lss iS (i64 0)) fun mK=>aq mK
 (bd (ag 2 x2) fun nE=>bd (ld1 eQ nE) fun oF=>bd (bn 1 oF x11) fun oR=>bd (ld1 eQ oR) fun rW=>bd (bh (aB (aF [(0,1),(1,1)]) [LV.str [],i64 0] [(0,rW),(1,i64 (-1))])) fun aS=>bd2 (cq eQ 1 (aB (fun i=>some (i*2,2)) (List.replicate 1 [LV.str [],i64 0]).flatten [(0,aS)])) fun aT gE=>R (LV.tup [aT,LV.bool true]) gE)
 (bd (al BinOp.add x11 (i64 1)) fun bY=>pF x2 x3 x6 bY R eQ))
 (bd (al BinOp.add x11 (i64 1)) fun dO=>pF x2 x3 x6 dO R st))
 (R (LV.tup [LV.nils,LV.bool false]) st)
theorem EO (x2 x3 x6 x11:LV) {R:LV.RT} {st:aa} (h:yj x2 x3 x6 x11 R st):pF x2 x3 x6 x11 R st:=
 pz Ji [] h
def yk (x1 x2 x5:LV) (R:LV.RT) (st:aa):Prop:=LTg Tryz.prog (kindOf false) [.tmp 4] (br Tryz.f135 3) [] R (.aY::x1::x2::.aY::.aY::x5::(LV.jk 15 [])) st
def ML:List Nat:=(LV.gx 0 21 [1,2,5])
def Qv (a0 a1:LV) (R:LV.RT) (st:aa):Prop:=
 bd2 (cu st a0) fun v0 eQ=>yk a1 v0 (i64 0) R eQ
theorem Rz (a0 a1:LV) {R:LV.RT} {st:aa} (h:Qv a0 a1 R st):LZ 135 [a0,a1] st R:=
 cz ML [] [.tmp 4] Tryz.func135 h
def CM (x1 x2 x5:LV) (R:LV.RT) (st:aa):Prop:=
 bd (ag 2 x2) fun v0=>bd (ld1 st v0) fun v1=>bd (bB v1) fun v2=>bd (al BinOp.lss x5 v2) fun v3=>aq v3
 (bd (ag 2 x2) fun v4=>bd (ld1 st v4) fun v5=>bd (bn 1 v5 x5) fun v6=>bd (ld1 st v6) fun v7=>bd (ck BinOp.eql v7 x1) fun v8=>aq v8 (R x5 st) (bd (al BinOp.add x5 (i64 1)) fun v9=>yk x1 x2 v9 R st))
 (R (i64 (-1)) st)
theorem Jj (x1 x2 x5:LV) {R:LV.RT} {st:aa} (h:CM x1 x2 x5 R st):yk x1 x2 x5 R st:=
 pz ML [] h
end Go.Proofs.YtknegckgmklnhaaGreatDoor
