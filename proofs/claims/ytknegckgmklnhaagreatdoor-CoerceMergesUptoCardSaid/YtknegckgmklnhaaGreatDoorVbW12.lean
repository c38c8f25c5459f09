/- Parts of the proof. -/
import Derived.Test.YtknegckgmklnhaaGreatDoorVbT2
namespace Go.Proofs.YtknegckgmklnhaaGreatDoor
open Go Go.CP
set_option maxRecDepth 100000
def lA (x2 x4 x5 x6 x30 x31 x32:LV) (R:LV.RT) (st:aa):Prop:=LTg Tryz.prog (kindOf false) [.cell 4 57] (cw Tryz.f63 10) [] R (.aJ::.aJ::x2::.aJ::x4::x5::x6::(LV.jk 23 (x30::x31::x32::(LV.jk 29 [])))) st
def CA:List Nat:=(LV.gx 0 62 [2,4,5,6,30,31,32])
def w63 (a0 a1:LV) (R:LV.RT) (st:aa):Prop:=
 bd2 (cn st a0) fun v0 bY=>bd2 (cn bY a1) fun v2 c7=>nw c7 [LV.nili] fun v4 aC=>bd (ldA aC v0 1) fun v6=>LZ 46 [v6] aC fun v7 oF=>bd (aI BinOp.neq v7 (i64 7)) fun v9=>aG v9
 (bd (ldA oF v2 1) fun c8=>LZ 46 [c8] oF fun dO eQ=>bd (aI BinOp.eql dO (i64 0)) fun lE=>aG lE (bd (ldA eQ v0 1) fun lT=>bd2 (lmk (stV eQ 1 v4 lT)) fun _ iD=>bd (ldA iD v4 1) fun p7=>R p7 iD)
 (bd (ldA eQ v2 1) fun p8=>bd2 (lmk (stV eQ 1 v4 p8)) fun _ iF=>bd (ldA iF v4 1) fun p9=>R p9 iF))
 (bd (ldA oF v2 1) fun tO=>LZ 46 [tO] oF fun v23 gE=>bd (aI BinOp.neq v23 (i64 7)) fun v25=>aG v25
 (bd (ldA gE v2 1) fun v26=>LZ 46 [v26] gE fun v27 gT=>bd (aI BinOp.eql v27 (i64 0)) fun v29=>aG v29 (bd (ldA gT v0 1) fun v30=>bd2 (lmk (stV gT 1 v4 v30)) fun _v31 iN=>bd (ldA iN v4 1) fun v33=>R v33 iN)
 (bd (ldA gT v2 1) fun v34=>bd2 (lmk (stV gT 1 v4 v34)) fun _v35 iS=>bd (ldA iS v4 1) fun v37=>R v37 iS))
 (bd (ldA gE v0 1) fun v38=>nw gE [LV.nili] fun aS oR=>bd2 (lmk (stV oR 1 aS v38)) fun _v41 mK=>bd (ldA mK v2 1) fun v43=>LZ 101 [v43] mK fun v44 nE=>bd (ldA nE v2 1) fun v46=>LZ 49 [v46] nE fun aT rW=>bd (bj aT) fun v49=>lA v0 v4 aS v44 aT v49 (i64 0) R rW))
theorem c63 (a0 a1:LV) {R:LV.RT} {st:aa} (h:w63 a0 a1 R st):LZ 63 [a0,a1] st R:=
 cz CA [] [.cell 4 57] Tryz.func63 h
def tD (x2 x4 x5 x6 x30 x31 x32:LV) (R:LV.RT) (st:aa):Prop:=
 bd (aI BinOp.lss x32 x31) fun v0=>aG v0
 (bd (bo 1 x30 x32) fun v1=>bd (ld1 st v1) fun v2=>bd (ldA st x2 1) fun v3=>LZ 50 [v3,v2] st fun v4 bY=>bd (af v4 0) fun v6=>bd (af v4 1) fun v7=>nw bY [LV.nili] fun v8 c7=>bd2 (lmk (stV c7 1 v8 v6)) fun _ gT=>bd (bo 1 x6 x32) fun c8=>bd (ldA gT c8 1) fun dO=>nw gT [LV.nili] fun iD iN=>bd2 (lmk (stV iN 1 iD dO)) fun _ eQ=>aG v7
 (bd (ldA eQ v8 1) fun lE=>bd (ldA eQ iD 1) fun lT=>LZ 63 [lE,lT] eQ fun p7 iS=>bd2 (lmk (stV iS 1 iD p7)) fun _ gE=>bd (ldA gE x5 1) fun p8=>bd (ldA gE iD 1) fun p9=>bd (bK (aN (aR [(0,1),(1,1)]) [LV.str [],i64 0] [(0,v2),(1,i64 (-1))])) fun tO=>bd2 (cK gE 1 (aN (fun i=>some (i*2,2)) (List.replicate 1 [LV.str [],i64 0]).flatten [(0,tO)])) fun v27 mK=>LZ 68 [p8,p9,v27] mK fun aS nE=>bd (af aS 0) fun v31=>bd (af aS 1) fun _v32=>bd2 (lmk (stV nE 1 x5 v31)) fun _v33 oF=>bd (aI BinOp.add x32 (i64 1)) fun v35=>lA x2 x4 x5 x6 x30 x31 v35 R oF)
 (bd (ldA eQ x5 1) fun v36=>bd (ldA eQ iD 1) fun v37=>bd (bK (aN (aR [(0,1),(1,1)]) [LV.str [],i64 0] [(0,v2),(1,i64 (-1))])) fun v38=>bd2 (cK eQ 1 (aN (fun i=>some (i*2,2)) (List.replicate 1 [LV.str [],i64 0]).flatten [(0,v38)])) fun v39 oR=>LZ 68 [v36,v37,v39] oR fun aT rW=>bd (af aT 0) fun v43=>bd (af aT 1) fun _v44=>bd2 (lmk (stV rW 1 x5 v43)) fun _v45 aC=>bd (aI BinOp.add x32 (i64 1)) fun v47=>lA x2 x4 x5 x6 x30 x31 v47 R aC))
 (bd (ldA st x5 1) fun v48=>bd2 (lmk (stV st 1 x4 v48)) fun _v49 iF=>bd (ldA iF x4 1) fun v51=>R v51 iF)
theorem xT (x2 x4 x5 x6 x30 x31 x32:LV) {R:LV.RT} {st:aa} (h:tD x2 x4 x5 x6 x30 x31 x32 R st):lA x2 x4 x5 x6 x30 x31 x32 R st:=
 pz CA [] h
def oW (x2 x3 x4 x5 x6 x9:LV) (R:LV.RT) (st:aa):Prop:=LTg Tryz.prog (kindOf false) [.cell 4 49] (cw Tryz.f64 8) [] R (.aJ::.aJ::x2::x3::x4::x5::x6::.aJ::.aJ::x9::(LV.jk 95 [])) st
def xU (x2 x3 x4 x5 x6 x7:LV) (R:LV.RT) (st:aa):Prop:=LTg Tryz.prog (kindOf false) [.cell 4 49] (cw Tryz.f64 14) [] R (.aJ::.aJ::x2::x3::x4::x5::x6::x7::(LV.jk 97 [])) st
def tF (x2 x3 x4 x5 x6:LV) (R:LV.RT) (st:aa):Prop:=LTg Tryz.prog (kindOf false) [.cell 4 49] (cw Tryz.f64 16) [] R (.aJ::.aJ::x2::x3::x4::x5::x6::(LV.jk 98 [])) st
def nT (x2 x3 x4 x5 x6 x9:LV) (R:LV.RT) (st:aa):Prop:=LTg Tryz.prog (kindOf false) [.cell 4 49] (cw Tryz.f64 20) [] R (.aJ::.aJ::x2::x3::x4::x5::x6::.aJ::.aJ::x9::(LV.jk 95 [])) st
def xV (x2 x3 x4 x5 x9:LV) (R:LV.RT) (st:aa):Prop:=LTg Tryz.prog (kindOf false) [.cell 4 49] (cw Tryz.f64 24) [] R (.aJ::.aJ::x2::x3::x4::x5::(LV.jk 3 (x9::(LV.jk 95 [])))) st
def xW (x2 x3 x4 x5 x9:LV) (R:LV.RT) (st:aa):Prop:=LTg Tryz.prog (kindOf false) [.cell 4 49] (cw Tryz.f64 25) [] R (.aJ::.aJ::x2::x3::x4::x5::(LV.jk 3 (x9::(LV.jk 95 [])))) st
def tG:List Nat:=(LV.gx 0 105 [2,3,4,5,6,9])
def tH:List (Nat × List Nat):=[(12,(LV.gx 0 105 [2,3,4,5,6,7])),(14,(LV.gx 0 105 [2,3,4,5,6])),(19,(LV.gx 0 105 [2,3,4,5,9])),(20,(LV.gx 0 105 [2,3,4,5,9]))]
def w64 (a0 a1:LV) (R:LV.RT) (st:aa):Prop:=
 bd2 (cn st a0) fun v0 nE=>bd2 (cn nE a1) fun v2 oF=>nw oF [i64 0,LV.bool false,i64 0,i64 0,LV.str [],LV.nils,LV.nils] fun v4 eQ=>bd (al 0 v0) fun v6=>bd (ld1 eQ v6) fun v7=>bd (aI BinOp.neq v7 (i64 7)) fun v8=>aG v8
 (bd (al 0 v2) fun v9=>bd (ld1 eQ v9) fun oR=>bd (aI BinOp.eql oR (i64 0)) fun rW=>aG rW (bd (ldA eQ v0 7) fun aC=>bd2 (lmk (stV eQ 7 v4 aC)) fun _ gE=>bd (ldA gE v4 7) fun aS=>R aS gE)
 (bd (ldA eQ v2 7) fun aT=>bd2 (lmk (stV eQ 7 v4 aT)) fun _ gT=>bd (ldA gT v4 7) fun bY=>R bY gT))
 (bd (al 0 v2) fun c7=>bd (ld1 eQ c7) fun c8=>bd (aI BinOp.neq c8 (i64 7)) fun dO=>aG dO
 (bd (al 0 v2) fun lE=>bd (ld1 eQ lE) fun lT=>bd (aI BinOp.eql lT (i64 0)) fun p7=>aG p7 (bd (ldA eQ v0 7) fun p8=>bd2 (lmk (stV eQ 7 v4 p8)) fun _ iD=>bd (ldA iD v4 7) fun p9=>R p9 iD)
 (bd (ldA eQ v2 7) fun tO=>bd2 (lmk (stV eQ 7 v4 tO)) fun _ iF=>bd (ldA iF v4 7) fun v33=>R v33 iF))
 (bd
 (bK
 (aN (aR [(0,1),(1,1),(2,1),(3,1),(4,1),(5,1),(6,1)])
 [i64 0,LV.bool false,i64 0,i64 0,LV.str [],LV.nils,LV.nils] [(0,i64 7)]))
 fun v34=>nw eQ [i64 0,LV.bool false,i64 0,i64 0,LV.str [],LV.nils,LV.nils] fun mK iN=>bd2 (lmk (stV iN 7 mK v34)) fun _v37 iS=>oW v0 v2 v4 mK (i64 0) (LV.tup []) R iS))
theorem c64 (a0 a1:LV) {R:LV.RT} {st:aa} (h:w64 a0 a1 R st):LZ 64 [a0,a1] st R:=
 cz tG tH [.cell 4 49] Tryz.func64 h
def xX (x2 x3 x4 x5 x6:LV) (_x9:LV) (R:LV.RT) (st:aa):Prop:=
 bd (al 5 x2) fun v0=>bd (ld1 st v0) fun v1=>bd (bj v1) fun v2=>bd (aI BinOp.lss x6 v2) fun v3=>aG v3
 (bd (al 5 x2) fun v4=>bd (ld1 st v4) fun v5=>bd (bo 7 v5 x6) fun v6=>bd (ldA st v6 7) fun v7=>nw st [i64 0,LV.bool false,i64 0,i64 0,LV.str [],LV.nils,LV.nils] fun v8 aS=>bd2 (lmk (stV aS 7 v8 v7)) fun _ gE=>bd (ldA gE x3 7) fun aT=>bd (al 6 x2) fun bY=>bd (ld1 gE bY) fun c7=>bd (bo 1 c7 x6) fun c8=>bd (ld1 gE c8) fun dO=>LZ 112 [aT,dO] gE fun oR eQ=>bd (aI BinOp.geq oR (i64 0)) fun lE=>aG lE
 (bd (ldA eQ v8 7) fun lT=>bd (al 5 x3) fun p7=>bd (ld1 eQ p7) fun p8=>bd (bo 7 p8 oR) fun p9=>bd (ldA eQ p9 7) fun tO=>LZ 64 [lT,tO] eQ fun v25 iF=>bd2 (lmk (stV iF 7 v8 v25)) fun _v27 iN=>xU x2 x3 x4 x5 x6 v8 R iN)
 (bd (al 5 x5) fun v29=>bd (ld1 eQ v29) fun v30=>bd (ldA eQ v8 7) fun v31=>bd2
 (cK eQ 1
 (aN (fun i=>some (i*7,7))
 (List.replicate 1 [i64 0,LV.bool false,i64 0,i64 0,LV.str [],LV.nils,LV.nils]).flatten [(0,v31)]))
 fun v32 iS=>bd2 (aY iS 7 96 Md.rw v30 v32) fun v34 mK=>bd (al 5 x5) fun v36=>bd2 (lmk (stV mK 1 v36 v34)) fun _v37 gT=>bd (al 6 x5) fun rW=>bd (ld1 gT rW) fun aC=>bd (al 6 x2) fun v41=>bd (ld1 gT v41) fun v42=>bd (bo 1 v42 x6) fun v43=>bd (ld1 gT v43) fun v44=>bd2 (cK gT 1 (aN (fun i=>some (i*1,1)) (List.replicate 1 [LV.str []]).flatten [(0,v44)])) fun v45 iD=>ld1 iD rW=some aC∧
 bd2 (aY iD 1 16 Md.rw aC v45) fun v47 nE=>bd (al 6 x5) fun v49=>bd2 (lmk (stV nE 1 v49 v47)) fun _v50 oF=>tF x2 x3 x4 x5 x6 R oF))
 (nT x2 x3 x4 x5 x6 (i64 0) R st)
theorem zI (x2 x3 x4 x5 x6 x9:LV) {R:LV.RT} {st:aa} (h:xX x2 x3 x4 x5 x6 x9 R st):oW x2 x3 x4 x5 x6 x9 R st:=
 pz tG tH h
def xY (x2 x3 x4 x5 x6 x7:LV) (R:LV.RT) (st:aa):Prop:=
 bd (al 5 x5) fun v0=>bd (ld1 st v0) fun v1=>bd (ldA st x7 7) fun v2=>bd2
 (cK st 1
 (aN (fun i=>some (i*7,7)) (List.replicate 1 [i64 0,LV.bool false,i64 0,i64 0,LV.str [],LV.nils,LV.nils]).flatten [(0,v2)]))
 fun v3 iS=>bd2 (aY iS 7 96 Md.rw v1 v3) fun v5 mK=>bd (al 5 x5) fun v7=>bd2 (lmk (stV mK 1 v7 v5)) fun _ gE=>bd (al 6 x5) fun iF=>bd (ld1 gE iF) fun iN=>bd (al 6 x2) fun nE=>bd (ld1 gE nE) fun oF=>bd (bo 1 oF x6) fun oR=>bd (ld1 gE oR) fun rW=>bd2 (cK gE 1 (aN (fun i=>some (i*1,1)) (List.replicate 1 [LV.str []]).flatten [(0,rW)])) fun aC eQ=>ld1 eQ iF=some iN∧
 bd2 (aY eQ 1 16 Md.rw iN aC) fun aS gT=>bd (al 6 x5) fun aT=>bd2 (lmk (stV gT 1 aT aS)) fun _ iD=>tF x2 x3 x4 x5 x6 R iD
theorem Bf (x2 x3 x4 x5 x6 x7:LV) {R:LV.RT} {st:aa} (h:xY x2 x3 x4 x5 x6 x7 R st):xU x2 x3 x4 x5 x6 x7 R st:=
 pz tG tH h
def tI (x2 x3 x4 x5 x6:LV) (R:LV.RT) (st:aa):Prop:=
 bd (aI BinOp.add x6 (i64 1)) fun v0=>oW x2 x3 x4 x5 v0 LV.aJ R st
theorem xZ (x2 x3 x4 x5 x6:LV) {R:LV.RT} {st:aa} (h:tI x2 x3 x4 x5 x6 R st):tF x2 x3 x4 x5 x6 R st:=
 pz tG tH h
def tJ (x2 x3 x4 x5 x6 x9:LV) (R:LV.RT) (st:aa):Prop:=
 bd (al 5 x3) fun v0=>bd (ld1 st v0) fun v1=>bd (bj v1) fun v2=>bd (aI BinOp.lss x9 v2) fun v3=>aG v3
 (bd (ldA st x2 7) fun v4=>bd (al 6 x3) fun v5=>bd (ld1 st v5) fun v6=>bd (bo 1 v6 x9) fun v7=>bd (ld1 st v7) fun v8=>LZ 112 [v4,v8] st fun v9 eQ=>bd (aI BinOp.lss v9 (i64 0)) fun nE=>aG nE
 (bd (al 5 x5) fun iS=>bd (ld1 eQ iS) fun mK=>bd (al 5 x3) fun oF=>bd (ld1 eQ oF) fun oR=>bd (bo 7 oR x9) fun rW=>bd (ldA eQ rW 7) fun aC=>bd2
 (cK eQ 1
 (aN (fun i=>some (i*7,7))
 (List.replicate 1 [i64 0,LV.bool false,i64 0,i64 0,LV.str [],LV.nils,LV.nils]).flatten [(0,aC)]))
 fun aS gE=>ld1 gE iS=some mK∧
 bd2 (aY gE 7 96 Md.rw mK aS) fun aT iD=>bd (al 5 x5) fun bY=>bd2 (lmk (stV iD 1 bY aT)) fun _ iF=>xV x2 x3 x4 x5 x9 R iF)
 (bd (aI BinOp.add x9 (i64 1)) fun c7=>nT x2 x3 x4 x5 x6 c7 R eQ))
 (bd (ldA st x5 7) fun c8=>LZ 27 [c8] st fun dO iN=>bd2 (lmk (stV iN 7 x4 dO)) fun _ gT=>bd (ldA gT x4 7) fun lE=>R lE gT)
theorem ya (x2 x3 x4 x5 x6 x9:LV) {R:LV.RT} {st:aa} (h:tJ x2 x3 x4 x5 x6 x9 R st):nT x2 x3 x4 x5 x6 x9 R st:=
 pz tG tH h
def yb (x2 x3 x4 x5 x9:LV) (R:LV.RT) (st:aa):Prop:=
 bd (al 6 x5) fun v0=>bd (ld1 st v0) fun v1=>bd (al 6 x3) fun v2=>bd (ld1 st v2) fun v3=>bd (bo 1 v3 x9) fun v4=>bd (ld1 st v4) fun v5=>bd2 (cK st 1 (aN (fun i=>some (i*1,1)) (List.replicate 1 [LV.str []]).flatten [(0,v5)])) fun v6 gE=>ld1 gE v0=some v1∧bd2 (aY gE 1 16 Md.rw v1 v6) fun v8 gT=>bd (al 6 x5) fun iD=>bd2 (lmk (stV gT 1 iD v8)) fun _ eQ=>xW x2 x3 x4 x5 x9 R eQ
theorem Bg (x2 x3 x4 x5 x9:LV) {R:LV.RT} {st:aa} (h:yb x2 x3 x4 x5 x9 R st):xV x2 x3 x4 x5 x9 R st:=
 pz tG tH h
def yc (x2 x3 x4 x5 x9:LV) (R:LV.RT) (st:aa):Prop:=
 bd (aI BinOp.add x9 (i64 1)) fun v0=>nT x2 x3 x4 x5 LV.aJ v0 R st
theorem Bh (x2 x3 x4 x5 x9:LV) {R:LV.RT} {st:aa} (h:yc x2 x3 x4 x5 x9 R st):xW x2 x3 x4 x5 x9 R st:=
 pz tG tH h
def cx (x5 x6:LV) (R:LV.RT) (st:aa):Prop:=LTg Tryz.prog (kindOf false) [.tmp 4] (cw Tryz.f13 3) [] R (LV.jk 5 (x5::x6::(LV.jk 39 []))) st
def oX (x5 x6 x7:LV) (R:LV.RT) (st:aa):Prop:=LTg Tryz.prog (kindOf false) [.tmp 4] (cw Tryz.f13 4) [] R (LV.jk 5 (x5::x6::x7::(LV.jk 38 []))) st
def yd (x4:LV) (R:LV.RT) (st:aa):Prop:=LTg Tryz.prog (kindOf false) [.tmp 4] (cw Tryz.f13 5) [] R (LV.jk 4 (x4::(LV.jk 41 []))) st
def yZ:List (Nat × List Nat):=[(3,(LV.gx 0 46 [5,6])),(4,(LV.gx 0 46 [5,6,7])),(5,(LV.gx 0 46 [4]))]
def w13 (a0 a1:LV) (R:LV.RT) (st:aa):Prop:=
 bd2 (cn st a0) fun v0 st1=>bd2 (cn st1 a1) fun v2 st3=>bd (ldA st3 v0 7) fun v4=>LZ 24 [v4] st3 fun v5 st6=>bd (aI BinOp.gtr v5 (i64 0)) fun v7=>aG v7 (LZ 51 [] st6 fun v8 st9=>R v8 st9)
 (bd (ldA st6 v2 7) fun v10=>LZ 24 [v10] st6 fun v11 st12=>bd (aI BinOp.gtr v11 (i64 0)) fun v13=>aG v13 (LZ 51 [] st12 fun v14 st15=>R v14 st15)
 (LZ 51 [] st12 fun v16 iD=>bd (lun UnOp.not v16) fun v18=>aG v18 (LZ 51 [] iD fun v19 st20=>R v19 st20)
 (bd (ldA iD v0 7) fun gE=>bd (ldA iD v2 7) fun eQ=>(nw iD [i64 0,LV.bool false,i64 0,i64 0,LV.str [],LV.nils,LV.nils] fun v23 oR=>ldA oR v2 7=some eQ∧
 ldA oR v0 7=some gE∧
 (nw oR [i64 0,LV.bool false,i64 0,i64 0,LV.str [],LV.nils,LV.nils] fun v25 c7=>ldA c7 v2 7=some eQ∧
 ldA c7 v0 7=some gE∧
 LZ 27 [gE] c7 fun v27 st28=>ldA st28 v2 7=some eQ∧
 LZ 27 [eQ] st28 fun v29 st30=>bd2 (lmk (stV st30 7 v25 v27)) fun _v31 st32=>bd2 (lmk (stV st32 7 v23 v29)) fun _v33 st34=>cx v25 v23 R st34)∧
 LZ 27 [gE] oR fun v35 c8=>ldA c8 v2 7=some eQ∧
 (nw c8 [i64 0,LV.bool false,i64 0,i64 0,LV.str [],LV.nils,LV.nils] fun v37 dO=>ldA dO v2 7=some eQ∧
 ldA dO v0 7=some gE∧
 LZ 27 [eQ] dO fun v39 st40=>bd2 (lmk (stV st40 7 v37 v35)) fun _v41 st42=>bd2 (lmk (stV st42 7 v23 v39)) fun _v43 st44=>cx v37 v23 R st44)∧
 LZ 27 [eQ] c8 fun v45 st46=>nw st46 [i64 0,LV.bool false,i64 0,i64 0,LV.str [],LV.nils,LV.nils] fun v47 lE=>ldA lE v2 7=some eQ∧
 ldA lE v0 7=some gE∧bd2 (lmk (stV lE 7 v47 v35)) fun _v49 st50=>bd2 (lmk (stV st50 7 v23 v45)) fun _v51 st52=>cx v47 v23 R st52)∧
 (nw iD [i64 0,LV.bool false,i64 0,i64 0,LV.str [],LV.nils,LV.nils] fun v53 rW=>ldA rW v2 7=some eQ∧
 ldA rW v0 7=some gE∧
 (nw rW [i64 0,LV.bool false,i64 0,i64 0,LV.str [],LV.nils,LV.nils] fun v55 lT=>ldA lT v2 7=some eQ∧
 ldA lT v0 7=some gE∧
 LZ 27 [gE] lT fun v57 st58=>ldA st58 v2 7=some eQ∧
 LZ 27 [eQ] st58 fun v59 st60=>bd2 (lmk (stV st60 7 v53 v57)) fun _v61 st62=>bd2 (lmk (stV st62 7 v55 v59)) fun _v63 st64=>cx v53 v55 R st64)∧
 LZ 27 [gE] rW fun v65 p7=>ldA p7 v2 7=some eQ∧
 (nw p7 [i64 0,LV.bool false,i64 0,i64 0,LV.str [],LV.nils,LV.nils] fun v67 p8=>ldA p8 v2 7=some eQ∧
 ldA p8 v0 7=some gE∧
 LZ 27 [eQ] p8 fun v69 st70=>bd2 (lmk (stV st70 7 v53 v65)) fun _v71 st72=>bd2 (lmk (stV st72 7 v67 v69)) fun _v73 st74=>cx v53 v67 R st74)∧
 LZ 27 [eQ] p7 fun v75 st76=>nw st76 [i64 0,LV.bool false,i64 0,i64 0,LV.str [],LV.nils,LV.nils] fun v77 p9=>ldA p9 v2 7=some eQ∧
 ldA p9 v0 7=some gE∧bd2 (lmk (stV p9 7 v53 v65)) fun _v79 st80=>bd2 (lmk (stV st80 7 v77 v75)) fun _v81 st82=>cx v53 v77 R st82)∧
 LZ 27 [gE] iD fun v83 aC=>ldA aC v2 7=some eQ∧
 (nw aC [i64 0,LV.bool false,i64 0,i64 0,LV.str [],LV.nils,LV.nils] fun v85 aS=>ldA aS v2 7=some eQ∧
 ldA aS v0 7=some gE∧
 (nw aS [i64 0,LV.bool false,i64 0,i64 0,LV.str [],LV.nils,LV.nils] fun v87 tO=>ldA tO v2 7=some eQ∧
 ldA tO v0 7=some gE∧
 LZ 27 [eQ] tO fun v89 st90=>bd2 (lmk (stV st90 7 v87 v83)) fun _v91 st92=>bd2 (lmk (stV st92 7 v85 v89)) fun _v93 st94=>cx v87 v85 R st94)∧
 LZ 27 [eQ] aS fun v95 st96=>nw st96 [i64 0,LV.bool false,i64 0,i64 0,LV.str [],LV.nils,LV.nils] fun v97 st98=>ldA st98 v2 7=some eQ∧
 ldA st98 v0 7=some gE∧
 bd2 (lmk (stV st98 7 v97 v83)) fun _v99 st100=>bd2 (lmk (stV st100 7 v85 v95)) fun _v101 st102=>cx v97 v85 R st102)∧
 (nw aC [i64 0,LV.bool false,i64 0,i64 0,LV.str [],LV.nils,LV.nils] fun aT gT=>ldA gT v2 7=some eQ∧
 ldA gT v0 7=some gE∧
 (nw gT [i64 0,LV.bool false,i64 0,i64 0,LV.str [],LV.nils,LV.nils] fun v105 iF=>ldA iF v2 7=some eQ∧
 ldA iF v0 7=some gE∧
 LZ 27 [eQ] iF fun v107 st108=>bd2 (lmk (stV st108 7 aT v83)) fun _v109 st110=>bd2 (lmk (stV st110 7 v105 v107)) fun _v111 st112=>cx aT v105 R st112)∧
 LZ 27 [eQ] gT fun v113 st114=>nw st114 [i64 0,LV.bool false,i64 0,i64 0,LV.str [],LV.nils,LV.nils] fun v115 iN=>ldA iN v2 7=some eQ∧
 ldA iN v0 7=some gE∧
 bd2 (lmk (stV iN 7 aT v83)) fun _v117 st118=>bd2 (lmk (stV st118 7 v115 v113)) fun _v119 st120=>cx aT v115 R st120)∧
 LZ 27 [eQ] aC fun v121 bY=>(nw bY [i64 0,LV.bool false,i64 0,i64 0,LV.str [],LV.nils,LV.nils] fun v123 iS=>ldA iS v2 7=some eQ∧
 ldA iS v0 7=some gE∧
 nw iS [i64 0,LV.bool false,i64 0,i64 0,LV.str [],LV.nils,LV.nils] fun v125 mK=>ldA mK v2 7=some eQ∧
 ldA mK v0 7=some gE∧
 bd2 (lmk (stV mK 7 v125 v83)) fun _v127 st128=>bd2 (lmk (stV st128 7 v123 v121)) fun _v129 st130=>cx v125 v123 R st130)∧
 nw bY [i64 0,LV.bool false,i64 0,i64 0,LV.str [],LV.nils,LV.nils] fun v131 nE=>ldA nE v2 7=some eQ∧
 ldA nE v0 7=some gE∧
 nw nE [i64 0,LV.bool false,i64 0,i64 0,LV.str [],LV.nils,LV.nils] fun v133 oF=>ldA oF v2 7=some eQ∧
 ldA oF v0 7=some gE∧
 bd2 (lmk (stV oF 7 v131 v83)) fun _v135 st136=>bd2 (lmk (stV st136 7 v133 v121)) fun _v137 st138=>cx v131 v133 R st138)))
theorem c13 (a0 a1:LV) {R:LV.RT} {st:aa} (h:w13 a0 a1 R st):LZ 13 [a0,a1] st R:=
 cz [] yZ [.tmp 4] Tryz.func13 h
def zJ (x5 x6:LV) (R:LV.RT) (st:aa):Prop:=
 bd (ldA st x5 7) fun v0=>bd (ldA st x6 7) fun v1=>(nw st [LV.nili] fun v2 iN=>ldA iN x6 7=some v1∧
 ldA iN x5 7=some v0∧
 LZ 29 [v0] iN fun v4 bY=>ldA bY x6 7=some v1∧LZ 29 [v1] bY fun v6 lT=>LZ 63 [v4,v6] lT fun v8 p7=>bd2 (lmk (stV p7 1 v2 v8)) fun _ iS=>oX x5 x6 v2 R iS)∧
 LZ 29 [v0] st fun mK eQ=>ldA eQ x6 7=some v1∧
 (nw eQ [LV.nili] fun c7 gE=>ldA gE x6 7=some v1∧
 ldA gE x5 7=some v0∧
 LZ 29 [v1] gE fun p8 nE=>LZ 63 [mK,p8] nE fun p9 oF=>bd2 (lmk (stV oF 1 c7 p9)) fun _ oR=>oX x5 x6 c7 R oR)∧
 LZ 29 [v1] eQ fun c8 iF=>(nw iF [LV.nili] fun dO gT=>ldA gT x6 7=some v1∧ldA gT x5 7=some v0∧LZ 63 [mK,c8] gT fun tO rW=>bd2 (lmk (stV rW 1 dO tO)) fun _ aC=>oX x5 x6 dO R aC)∧
 LZ 63 [mK,c8] iF fun v30 aS=>nw aS [LV.nili] fun lE iD=>ldA iD x6 7=some v1∧ldA iD x5 7=some v0∧bd2 (lmk (stV iD 1 lE v30)) fun _v34 aT=>oX x5 x6 lE R aT
theorem CB (x5 x6:LV) {R:LV.RT} {st:aa} (h:zJ x5 x6 R st):cx x5 x6 R st:=
 pz [] yZ h
def zK (x5 x6 x7:LV) (R:LV.RT) (st:aa):Prop:=
 bd (ldA st x7 1) fun v0=>bd (ldA st x5 7) fun v1=>bd (ldA st x6 7) fun v2=>LZ 64 [v1,v2] st fun v3 mK=>ldA mK x7 1=some v0∧
 LZ 31 [v0,v3] mK fun v5 gE=>bd (aI BinOp.eql v5 (i64 0)) fun v7=>aG v7
 (bd (ldA gE x5 7) fun v8=>bd (ldA gE x5 7) fun v9=>bd (ldA gE x5 7) fun iF=>LZ 29 [v8] gE fun nE eQ=>ldA eQ x5 7=some iF∧
 ldA eQ x5 7=some v9∧
 LZ 29 [v9] eQ fun oF gT=>ldA gT x5 7=some iF∧
 LZ 63 [nE,oF] gT fun oR iD=>ldA iD x5 7=some iF∧LZ 29 [iF] iD fun rW iN=>LZ 48 [oR,rW] iN fun aC iS=>yd aC R iS)
 (yd (LV.bool false) R gE)
theorem CC (x5 x6 x7:LV) {R:LV.RT} {st:aa} (h:zK x5 x6 x7 R st):oX x5 x6 x7 R st:=
 pz [] yZ h
def CD (x4:LV) (R:LV.RT) (st:aa):Prop:=
 R x4 st
theorem CE (x4:LV) {R:LV.RT} {st:aa} (h:CD x4 R st):yd x4 R st:=
 pz [] yZ h
end Go.Proofs.YtknegckgmklnhaaGreatDoor
namespace Go.CP.T
theorem oY {ea:List (List UInt8 × T)} {e:List UInt8 × T}:∀ {l out:List (List UInt8 × T)},eL ea (l++[e]) out=ins e.1 (iR ea e) (eL ea l out)
 | [],out=>rfl
 | x::l,out=>by simp only[List.cons_append,eL];exact oY
theorem y0 {es:List (List UInt8 × T)} {i:Nat} (h:(T.map es).ok):(T.map (es.take i)).ok:=by
 simp only[T.ok] at h ⊢
 refine ⟨by have:=h.1;rw[List.length_take];omega,T.bX.2 fun e he=>T.bX.1 h.2.1 e (List.mem_of_mem_take he),?_⟩
 rw[List.map_take]
 exact h.2.2.sublist (List.take_sublist _ _)
theorem ye {N:Nat} {es:List (List UInt8 × T)} {i:Nat} (h:(T.map es).lim N):(T.map (es.take i)).lim N:=by
 simp only[lim] at h ⊢
 exact ⟨by have:=h.1;rw[List.length_take];omega,cM.2 fun e he=>cM.1 h.2 e (List.mem_of_mem_take he)⟩
end Go.CP.T
namespace Go.Proofs.YtknegckgmklnhaaGreatDoor
open Go Go.CP
set_option maxRecDepth 100000
section
variable {st:aa}
structure MG (st:aa) (a out:T):Prop where
 a:st[0]?=some (.cells .rw [lvT a])
 r:st[2]?=some (.cells .rw [.nili])
 o:st[3]?=some (.cells .rw [lvT out])
theorem MG.fr {st st':aa} {a out:T} {S:Nat→Prop} (h:MG st a out) (hf:Fr st st' S) (h0:¬ S 0) (h2:¬ S 2) (h3:¬ S 3):MG st' a out:=⟨hf.get h.a h0,hf.get h.r h2,hf.get h.o h3⟩
theorem Bi {N:Nat} (hN:2*N≤big) {ea eb:List (Tx × T)} (ha:(T.map ea).ok) (hb:(T.map eb).ok) (la:(T.map ea).lim N) (lb:(T.map eb).lim N)
  (ih:∀ x,∀ e ∈ eb,x.ok→x.lim N→Pu Tryz.prog 63 [vT x,vT e.2] (vT (T.mrg x e.2))) :
  ∀ (d i:Nat) (st:aa),i+d=eb.length→MG st (.map ea) (.map (T.eL ea (eb.take i) ea))→
   lA (.ptr 0 0) (.ptr 2 0) (.ptr 3 0) (vL (eb.map (·.2))) (sL (eb.map (·.1))) (i64 eb.length) (i64 i) (fun r s=>dp s (vT (T.mrg (.map ea) (.map eb))) r) st:=by
 have hbl:eb.length≤big:=by simp only[T.ok] at hb;exact hb.1
 intro d
 induction d with
 | zero=>
  intro i st hi h
  refine xT _ _ _ _ _ _ _ ?_
  have c1:¬ ((i:Int)<eb.length):=by omega
  have ho:=h.o
  rw[List.take_of_length_le (by omega)] at ho
  simp only[tD,an,aO,c1,dz,ae,ax,gX ho,gC h.r,aB,aj,gX (bQ h.r)]
  exact bk (v:=vT (T.mrg (.map ea) (.map eb))) _ bG
 | succ d ihd=>
  intro i st hi h
  refine xT _ _ _ _ _ _ _ ?_
  have hlt:i<eb.length:=by omega
  have c1:((i:Int)<eb.length):=by omega
  obtain ⟨⟨k,y⟩,hk⟩:∃ e,eb[i]=e:=⟨_,rfl⟩
  have hget:eb[i]?=some (k,y):=by rw[bh hlt,hk]
  have hmem:(k,y) ∈ eb:=cA hget
  have hks:((eb.map (·.1)).map LV.str)[i*1]?=some (.str k):=by simp[hget]
  have hvs:(dM (eb.map (·.2)))[i*1]?=some (lvT y):=by rw[nF];simp[hget]
  have hlt':i<(eb.map (·.1)).length:=by simpa using hlt
  have hlt2:i<(eb.map (·.2)).length:=by simpa using hlt
  have e0:bo 1 (sL (eb.map (·.1))) (i64 i)=some (.iptr ((eb.map (·.1)).map .str) (i*1)):=dd hlt'
  have e1:bo 1 (vL (eb.map (·.2))) (i64 i)=some (.iptr (dM (eb.map (·.2))) (i*1)):=dd hlt2
  have hvl:i*1+1≤(dM (eb.map (·.2))).length:=by rw[kj];omega
  have e4:∀ {s:aa},ldA s (.iptr (dM (eb.map (·.2))) (i*1)) 1=some (vT y):=by
   intro s
   rw[ie hvl]
   congr 2
   rw[List.take_one,List.head?_drop,hvs]
   rfl
  have hw1:=bO (show i<2 ^ 40 by unfold big at hbl;omega)
  have hout:(T.map (T.eL ea (eb.take i) ea)).ok:=T.pK hN _ (.map ea) (.map (eb.take i)) (Nat.lt_succ_self _) ha (T.y0 hb) la (T.ye lb)
  have hnx:T.eL ea (eb.take (i+1)) ea=T.ins k (T.iR ea (k,y)) (T.eL ea (eb.take i) ea):=by
   rw[List.take_add_one,hget];exact T.oY
  -- the end of a turn
  have last:∀ {s:aa} {L M:Nat},MG s (.map ea) (.map (T.eL ea (eb.take i) ea))→s[L]?=some (.cells .rw [lvT (T.iR ea (k,y))])→4≤s.length→
    bd (ldA s (.ptr 3 0) 1) fun v36=>bd (ldA s (.ptr L 0) 1) fun v37=>
     bd (bK (aN (aR [(0,1),(1,1)]) [LV.str [],i64 0] [(0,.str k),(1,i64 (-1))])) fun v38=>
     bd2 (cK s 1 (aN (fun i=>some (i*2,2)) (List.replicate 1 [LV.str [],i64 0]).flatten [(0,v38)])) fun v39 st40=>
     ag Tryz.prog 68 [v36,v37,v39] st40 fun v41 st42=>bd (af v41 0) fun v43=>bd (af v41 1) fun _v44=>
     bd2 (lmk (stV st42 1 (.ptr 3 0) v43)) fun _v45 st46=>bd (aI BinOp.add (i64 i) (i64 1)) fun v47=>lA (.ptr 0 0) (.ptr 2 0) (.ptr 3 0) (vL (eb.map (·.2))) (sL (eb.map (·.1))) (i64 eb.length) v47 (fun r s=>dp s (vT (T.mrg (.map ea) (.map eb))) r) st46:=by
   intro s L M hs hL h4
   have z1:bK (aN (aR [(0,1),(1,1)]) [LV.str [],i64 0] [(0,.str k),(1,i64 (-1))])=some (kS k):=rfl
   have z2:aN (fun i=>some (i*2,2)) (List.replicate 1 [LV.str [],i64 0]).flatten [(0,kS k)]=some [.str k,i64 (-1)]:=rfl
   simp only[gX hs.o,gX hL,ae,z1,z2,cj,aj]
   refine ag.Cz (ws:=[vT (.map (T.eL ea (eb.take i) ea)),vT (T.iR ea (k,y))]) (bs:=[]) (cs:=[.str k,i64 (-1)]) (rest:=[]) aH fun s2 hf2=>?_
   refine (Be hout k _).call ?_
   have hs2:MG s2 (.map ea) (.map (T.eL ea (eb.take i) ea)):=(hs.fr (Fr.app (S:=fun _=>False)) id id id).fr hf2 (by omega) (by omega) (by omega)
   simp only[aV,bB,bJ,ae,gC hs2.o,aB,aj,an,bx,hw1]
   refine ihd (i+1) _ (by omega) ⟨?_,?_,?_⟩
   ·rw[bn (by omega)];exact hs2.a
   ·rw[bn (by omega)];exact hs2.r
   ·rw[hnx];exact bQ hs2.o
  have h4:4≤st.length:=by have:=bR h.o;omega
  have e5:∀ {s:aa} {x:LV} {t:T},stV (s++[ah.cells .rw [x]]) 1 (.ptr s.length 0) (vT t)=some (s++[ah.cells .rw [lvT t]]):=fun {s x t}=>ft
  simp only[tD,an,aO,c1,dh,ae,a8,e0,cm,hks,gX h.a]
  refine (zy ha k).call ?_
  have hat:(T.map ea).at k=T.find ea k:=rfl
  simp only[aV,bB,bJ,ae,dc,e5,aB,aj,e1,e4,hat]
  have F:∀ {x y:ah},MG (st++[x]++[y]) (.map ea) (.map (T.eL ea (eb.take i) ea)):=fun {x y}=>(h.fr (Fr.app (S:=fun _=>False)) id id id).fr (Fr.app (S:=fun _=>False)) id id id
  cases hf:T.find ea k with
  | none=>
   have h1:T.iR ea (k,y)=y:=by unfold T.iR;simp only[hf]
   simp only[Option.isSome_none,ax]
   refine last (M:=0) F ?_ (by simp only[cy,bg,bu];omega)
   rw[h1];exact aH
  | some x=>
   have h1:T.iR ea (k,y)=T.mrg x y:=by unfold T.iR;simp only[hf]
   have hxm:=T.fS hf
   have hxo:x.ok:=by simp only[T.ok] at ha;exact (T.bX.1 ha.2.1 _ hxm).2
   have hxl:x.lim N:=by simp only[T.lim] at la;exact T.cM.1 la.2 _ hxm
   have gA:∀ {u:ah},ldA (st++[ah.cells .rw [lvT x]]++[u]) (.ptr st.length 0) 1=some (vT x):=gX (cb aH)
   have gB:∀ {u:ah} {t:T},ldA (st++[u]++[ah.cells .rw [lvT t]]) (.ptr (st++[u]).length 0) 1=some (vT t):=gX aH
   simp only[Option.isSome_some,Option.getD_some,a8,gA,gB,ae]
   refine (ih x (k,y) hmem hxo hxl).call ?_
   simp only[e5,aB,aj]
   refine last (M:=0) F ?_ (by simp only[cy,bg,bu];omega)
   rw[h1];exact aH
theorem qh {N:Nat} (hN:2*N≤big):∀ (n:Nat) (a b:T),SizeOf.sizeOf b<n→a.ok→b.ok→a.lim N→b.lim N→Pu Tryz.prog 63 [vT a,vT b] (vT (T.mrg a b))
 | 0,_,_,h,_,_,_,_=>by omega
 | n+1,a,b,hn,ha,hb,la,lb=>by
  refine Pu.of (c63 _ _ ?_) (by simp only[LV.au,LV.plain,ct];rfl) bG
  have g0:∀ {l:aa},ldA (ah.cells .rw [lvT a]::l) (.ptr 0 0) 1=some (vT a):=gX rfl
  have g1:∀ {x:ah} {l:aa},ldA (x::ah.cells .rw [lvT b]::l) (.ptr 1 0) 1=some (vT b):=gX rfl
  have g2:∀ {x y:ah} {t:T} {l:aa},ldA (x::y::ah.cells .rw [lvT t]::l) (.ptr 2 0) 1=some (vT t):=gX rfl
  have e2:∀ {x y:ah} {t:T},stV [x,y,.cells .rw [.nili]] 1 (.ptr 2 0) (vT t)=some [x,y,.cells .rw [lvT t]]:=fun {x y t}=>gC (x:=.nili) rfl
  have e3:∀ {x y z:ah} {t:T},stV [x,y,z,.cells .rw [.nili]] 1 (.ptr 3 0) (vT t)=some [x,y,z,.cells .rw [lvT t]]:=fun {x y z t}=>gC (x:=.nili) rfl
  have k7:∀ {t:T},(t.kind != 7)=decide (t.kind≠7):=fun {t}=>by by_cases h:t.kind=7<;>simp[h]
  have k0:∀ {t:T},(t.kind==0)=decide (t.kind=0):=fun {t}=>by by_cases h:t.kind=0<;>simp[h]
  have plain:¬ (a.kind=7∧b.kind=7)→T.mrg a b=if b.kind=0 then a else b:=by
   intro h
   cases b<;>simp only[T.kind] at h ⊢<;>first|rfl | (cases a<;>simp only[] at h<;>first|rfl|simp at h)
  have ends:¬ (a.kind=7∧b.kind=7)→∀ {s s':aa},(b.kind=0→dp s (vT (T.mrg a b)) (vT a))∧(¬ b.kind=0→dp s' (vT (T.mrg a b)) (vT b)):=by
   intro h s s'
   rw[plain h]
   refine ⟨fun e=>?_,fun e=>?_⟩
   ·rw[if_pos e];exact bk (v:=vT a) _ bG
   ·rw[if_neg e];exact bk (v:=vT b) _ bG
  simp only[w63,gu,aj,dc,bw,List.cons_append,bu,bg,av,Nat.reduceAdd,g0,ae]
  refine (kf a).call ?_
  simp only[an,cU,k7,ae,a7,g1]
  refine ⟨fun h=>?_,fun h=>?_⟩
  ·refine (kf b).call ?_
   simp only[an,b5,k0,ae,a7,g0,g1,e2,aB,aj,g2]
   exact ends fun c=>h c.1
  ·have hka:a.kind=7:=Classical.byContradiction h
   refine (kf b).call ?_
   simp only[an,cU,k7,ae,a7]
   refine ⟨fun h'=>?_,fun h'=>?_⟩
   ·refine (kf b).call ?_
    simp only[an,b5,k0,ae,a7,g0,g1,e2,aB,aj,g2]
    exact ends fun c=>h' c.2
   ·have hkb:b.kind=7:=Classical.byContradiction h'
    obtain ⟨ea,rfl⟩:∃ es,a=.map es:=by cases a<;>simp only[T.kind] at hka<;>first|omega|exact ⟨_,rfl⟩
    obtain ⟨eb,rfl⟩:∃ es,b=.map es:=by cases b<;>simp only[T.kind] at hkb<;>first|omega|exact ⟨_,rfl⟩
    simp only[g0,ae,bw,List.cons_append,bu,bg,av,Nat.reduceAdd,e3,aB,aj,g1]
    refine (rJ hb).call ?_
    simp only[g1,ae]
    refine (pS hb).call ?_
    simp only[aP,ae,T.keys,T.items,aU]
    refine Bi hN ha hb la lb (fun x e he hx lx=>?_) eb.length 0 _ (by omega) ⟨rfl,rfl,rfl⟩
    have hb':=hb
    simp only[T.ok] at hb'
    have lb':=lb
    simp only[T.lim] at lb'
    refine qh hN n x e.2 ?_ hx (T.bX.1 hb'.2.1 _ he).2 lx (T.cM.1 lb'.2 _ he)
    have h3:=List.sizeOf_lt_of_mem he
    obtain ⟨ek,ev⟩:=e
    simp at h3 hn ⊢;omega
end
end Go.Proofs.YtknegckgmklnhaaGreatDoor
namespace Go.CP.T
theorem eC {k:List UInt8}:∀ {a b:List (List UInt8 × T)},find (a++b) k=(find a k).or (find b k)
 | [],b=>rfl
 | e::a,b=>by
  rw[List.cons_append,a6,a6]
  by_cases h:e.1=k
  ·rw[if_pos h,if_pos h];rfl
  ·rw[if_neg h,if_neg h];exact eC
end Go.CP.T
namespace Go.Proofs.YtknegckgmklnhaaGreatDoor
open Go Go.CP
set_option maxRecDepth 100000
theorem vP {es:List (Tx × T)} {k j:Tx} {t:T} (h:(es.map (·.1)).Pairwise ltB):T.find (ins es k t) j=(T.find es j).or (if k=j then some t else none):=by
 have hr:=e9 (k:=k) (t:=t) h
 unfold ins at hr ⊢
 split
 ·rename_i hc
  by_cases hj:k=j
  ·subst hj
   obtain ⟨e,he,hk⟩:=Option.map_eq_some_iff.1 hc
   cases hf:T.find es k with
   | some y=>rfl
   | none=>exact absurd (List.mem_map.2 ⟨e,cA he,hk⟩) (T.iL.1 hf)
  ·rw[if_neg hj,Option.or_none]
 ·rename_i hc
  rw[if_neg hc] at hr
  have hs:T.find es j=(T.find (es.take (pos es k)) j).or (T.find (es.drop (pos es k)) j):=by rw[← T.eC,List.take_append_drop]
  rw[T.eC,T.a6,hs]
  by_cases hj:k=j
  ·subst hj
   have hn:=b6 hr
   rw[List.map_append,List.map_cons,List.nodup_append] at hn
   have h1:T.find (es.take (pos es k)) k=none:=T.iL.2 fun c=>hn.2.2 k c k (by simp) rfl
   have h2:T.find (es.drop (pos es k)) k=none:=T.iL.2 fun c=>(List.nodup_cons.1 hn.2.1).1 c
   simp[h1,h2]
  ·rw[if_neg hj,if_neg hj,Option.or_none]
theorem iy {l:List (Tx × T)}:((cH l).map (·.1)).Pairwise ltB:=(lu (q:=fun _=>True) fun _ _=>trivial).2
theorem mh {l:List (Tx × T)} {j:Tx}:T.find (cH l) j=T.find l j:=by
 have go:∀ (n:Nat),n≤l.length→T.find (cH (l.take n)) j=T.find (l.take n) j:=by
  intro n
  induction n with
  | zero=>intro _;simp[cH]
  | succ n ih=>
   intro hn
   have hlt:n<l.length:=by omega
   rw[List.take_add_one,bh hlt,Option.toList_some,mg,vP iy,ih (by omega),T.eC,T.a6]
   rfl
 have:=go l.length (Nat.le_refl _)
 rwa [List.take_length] at this
theorem sd {l:List (Tx × T)} (h:(l.map (·.1)).Pairwise ltB):cH l=l:=T.kb iy h fun _=>mh
theorem nU {x:Int} (h : -9007199254740992≤x∧x≤9007199254740992):kq x=x:=by unfold kq;omega
theorem yf:∀ (n:Nat) (t:T),SizeOf.sizeOf t<n→t.ok→cln (rT t)=t
 | 0,_,h,_=>by omega
 | n+1,t,hn,ht=>by
  have hrec:∀ x ∈ t.items,cln (rT x)=x:=fun x hx=>yf n x (by have:=T.eZ hx;omega) (T.fR ht x hx)
  cases t<;>try rfl
  ·rename_i a b
   simp only[T.ok] at ht
   rw[jz]
   simp only[rT,RV.k,RV.n,RV.m]
   rw[nU (by omega),nU (by omega)]
   rfl
  ·rename_i l
   rw[jz]
   simp only[rT,RV.k,RV.l,nH,List.map_map]
   have:l.map (cln ∘ rT)=l:=by
    conv=>rhs;rw[← List.map_id l]
    exact List.map_congr_left fun x hx=>hrec x hx
   rw[this];rfl
  ·rename_i es
   rw[jz]
   simp only[rT,RV.k,RV.l,RV.ks,fg,List.map_map]
   have e:(es.map (·.1)).zip (es.map (cln ∘ fun e=>rT e.2))=es:=by
    rw[List.zip_map']
    conv=>rhs;rw[← List.map_id es]
    refine List.map_congr_left fun x hx=>?_
    have:=hrec x.2 (List.mem_map.2 ⟨x,hx,rfl⟩)
    simp only[Function.comp_def,this];rfl
   rw[e]
   simp only[T.ok] at ht
   rw[sd ht.2.2];rfl
def mg2 (eb:List (Tx × T)) (e:Tx × T):T:=match T.find eb e.1 with
 | some y=>T.mrg e.2 y
 | none=>e.2
theorem oZ {f:Tx × T→T} {k:Tx}:∀ {l:List (Tx × T)},T.find (l.map fun e=>(e.1,f e)) k=(T.find l k).map fun x=>f (k,x)
 | []=>rfl
 | e::l=>by
  rw[List.map_cons,T.a6,T.a6]
  by_cases h:e.1=k
  ·rw[if_pos h,if_pos h];subst h;rfl
  ·rw[if_neg h,if_neg h];exact oZ
theorem gv {q:Tx→Bool} {k:Tx}:∀ {l:List (Tx × T)},T.find (l.filter fun e=>q e.1) k=if q k then T.find l k else none
 | []=>by split<;>rfl
 | e::l=>by
  by_cases hq:q e.1=true
  ·rw[List.filter_cons,if_pos hq,T.a6,T.a6]
   by_cases h:e.1=k
   ·subst h;rw[if_pos rfl,if_pos hq,if_pos rfl]
   ·rw[if_neg h,if_neg h];exact gv
  ·rw[List.filter_cons,if_neg hq,gv,T.a6]
   by_cases h:e.1=k
   ·subst h;rw[if_neg hq,if_neg hq]
   ·rw[if_neg h]
def mgL (ea eb:List (Tx × T)):List (Tx × T):=(ea.map fun e=>(e.1,mg2 eb e))++eb.filter fun e=>(T.find ea e.1).isNone
theorem y5 {ea eb:List (Tx × T)} (ha:(ea.map (·.1)).Pairwise ltB) (hb:(eb.map (·.1)).Pairwise ltB):cH (mgL ea eb)=T.eL ea eb ea:=by
 refine T.kb iy (T.iO ha) fun k=>?_
 rw[mh,T.lj ha hb]
 unfold mgL
 rw[T.eC,oZ,gv (q:=fun k=>(T.find ea k).isNone)]
 cases hA:T.find ea k with
 | none=>
  cases hB:T.find eb k with
  | none=>rfl
  | some y=>simp only[Option.map_none,Option.isNone_none,if_true,Option.none_or,T.iR,hA]
 | some x=>
  cases hB:T.find eb k with
  | none=>simp only[Option.map_some,mg2,hB,Option.some_or]
  | some y=>simp only[Option.map_some,mg2,hB,Option.some_or,T.iR,hA]
end Go.Proofs.YtknegckgmklnhaaGreatDoor
