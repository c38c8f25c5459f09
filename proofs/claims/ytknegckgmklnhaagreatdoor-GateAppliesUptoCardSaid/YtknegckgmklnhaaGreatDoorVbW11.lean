/- Parts of the proof. -/
import Derived.Test.YtknegckgmklnhaaGreatDoorVbW
namespace Go.Proofs.YtknegckgmklnhaaGreatDoor
open Go Go.CP
set_option maxRecDepth 100000
def ia (x7 x8 x9 x10 x11:LV) (R:LV.RT) (st:aa):Prop:=LTg Tryz.prog (kindOf false) [.tmp 6] (br Tryz.f12 4) [] R (LV.jk 7 (x7::x8::x9::x10::x11::(LV.jk 68 []))) st
def zG (x8 x9 x10 x11 x12 x13:LV) (R:LV.RT) (st:aa):Prop:=LTg Tryz.prog (kindOf false) [.tmp 6] (br Tryz.f12 5) [] R (LV.jk 8 (x8::x9::x10::x11::x12::x13::(LV.jk 66 []))) st
def L5 (x8 x9 x10 x11 x12 x13 x55:LV) (R:LV.RT) (st:aa):Prop:=LTg Tryz.prog (kindOf false) [.tmp 6] (br Tryz.f12 6) [] R (LV.jk 8 (x8::x9::x10::x11::x12::x13::(LV.jk 41 (x55::(LV.jk 24 []))))) st
def BO (x6:LV) (R:LV.RT) (st:aa):Prop:=LTg Tryz.prog (kindOf false) [.tmp 6] (br Tryz.f12 10) [] R (LV.jk 6 (x6::(LV.jk 73 []))) st
def Hq:List (Nat × List Nat):=[(4,(LV.gx 0 80 [7,8,9,10,11])),(5,(LV.gx 0 80 [8,9,10,11,12,13])),(6,(LV.gx 0 80 [8,9,10,11,12,13,55])),(10,(LV.gx 0 80 [6]))]
def oM (iD iN iF iS mK nE oF:LV) (eQ:aa) (R:LV.RT):Prop:=
 bd2 (lmk (stV eQ 7 iD iN)) fun _ gE=>bd2 (lmk (stV gE 7 iF iS)) fun _ gT=>ia mK nE oF iD iF R gT
def Hr (v2 iD v0 iS mK nE oF oR rW:LV) (gT:aa) (R:LV.RT):Prop:=
 (nw gT [i64 0,LV.bool false,i64 0,i64 0,LV.str [],LV.nils,LV.nils] fun aS eQ=>ldA eQ v2 7=some iD∧ldA eQ v0 7=some iS∧LZ 27 [iD]
 eQ fun aT iF=>oM aS mK nE aT oF oR rW iF R)∧LZ 27 [iD] gT fun bY iN=>nw iN [i64 0,LV.bool false,i64 0,i64 0,LV.str [],
 LV.nils,LV.nils] fun dO gE=>ldA gE v2 7=some iD∧ldA gE v0 7=some iS∧oM dO mK nE bY oF oR rW gE R
def Hs (v2 iD v0 iS mK nE oF oR rW:LV) (gT:aa) (R:LV.RT):Prop:=
 (nw gT [i64 0,LV.bool false,i64 0,i64 0,LV.str [],LV.nils,LV.nils] fun aS eQ=>ldA eQ v2 7=some iD∧ldA eQ v0 7=some iS∧LZ 27 [iD]
 eQ fun aT iF=>oM mK nE aS aT oF oR rW iF R)∧LZ 27 [iD] gT fun bY iN=>nw iN [i64 0,LV.bool false,i64 0,i64 0,LV.str [],
 LV.nils,LV.nils] fun dO gE=>ldA gE v2 7=some iD∧ldA gE v0 7=some iS∧oM mK nE dO bY oF oR rW gE R
def w12 (a0 a1 a2:LV) (R:LV.RT) (st:aa):Prop:=
 bd2 (cu st a1) fun v0 st1=>bd2 (cu st1 a2) fun v2 st3=>bd (ldA st3 v0 7) fun v4=>LZ 24 [v4] st3 fun v5 st6=>bd (al BinOp.gtr v5 (i64 0)) fun v7=>aq v7 (LZ 54
 [] st6 fun v8 st9=>R v8 st9) (bd (ldA st6 v2 7) fun v10=>LZ 24 [v10] st6 fun v11 p7=>bd (al BinOp.gtr v11 (i64 0)) fun v13=>aq v13 (LZ 54 [] p7 fun v14 st15=>R v14 st15) (LZ 54 [] p7 fun v16 p8=>bd (lun UnOp.not v16) fun v18=>aq v18 (LZ 54 [] p8 fun v19 st20=>R v19 st20) (LZ 26 [a0] p8 fun v21 st22=>bd (ai v21
 0) fun aS=>bd (ai v21 1) fun v24=>bd (ai v21 2) fun aT=>nw st22 [i64 0,LV.nils] fun nE st27=>bd2 (lmk (stV st27 2 nE v24)) fun _v28 gT=>bd (ldA gT v0 7) fun gE=>bd (ldA
 gT v2 7) fun eQ=>(nw gT [i64 0,LV.bool false,i64 0,i64 0,LV.str [],LV.nils,LV.nils] fun v32 oF=>ldA oF v2 7=some eQ∧ldA oF v0 7=some gE∧(nw
 oF [i64 0,LV.bool false,i64 0,i64 0,LV.str [],LV.nils,LV.nils] fun v34 dO=>ldA dO v2 7=some eQ∧ldA dO v0 7=some gE∧LZ 27 [gE] dO
 fun v36 p9=>ldA p9 v2 7=some eQ∧LZ 27 [eQ] p9 fun v38 st39=>oM v34 v36 v32 v38 aS nE aT st39 R)∧LZ 27 [gE] oF fun v44 tO=>ldA tO v2 7=some eQ∧Hr v2
 eQ v0 gE v44 v32 aS nE aT tO R)∧(nw gT [i64 0,LV.bool false,i64 0,i64 0,LV.str [],LV.nils,LV.nils] fun v62 oR=>ldA oR v2 7=some eQ∧ldA oR v0 7 =
 some gE∧(nw oR [i64 0,LV.bool false,i64 0,i64 0,LV.str [],LV.nils,LV.nils] fun v64 lE=>ldA lE v2 7=some eQ∧ldA lE v0 7=some gE∧LZ
 27 [gE] lE fun v66 st67=>ldA st67 v2 7=some eQ∧LZ 27 [eQ] st67 fun v68 st69=>oM v62 v66 v64 v68 aS nE aT st69 R)∧LZ 27 [gE] oR fun v74 st75=>ldA st75 v2 7=some eQ
 ∧ Hs v2 eQ v0 gE v62 v74 aS nE aT st75 R)∧LZ 27 [gE] gT fun v92 rW=>ldA rW v2 7=some eQ∧(nw rW [i64 0,LV.bool false,i64 0,i64 0,
 LV.str [],LV.nils,LV.nils] fun v94 lT=>ldA lT v2 7=some eQ∧ldA lT v0 7=some gE∧Hr v2 eQ v0 gE v92 v94 aS nE aT lT R)∧(nw rW [i64 0,LV.bool false,i64 0,
 i64 0,LV.str [],LV.nils,LV.nils] fun v112 iD=>ldA iD v2 7=some eQ∧ldA iD v0 7=some gE∧Hs v2 eQ v0 gE v112 v92 aS nE aT iD R)∧LZ 27 [eQ] rW fun v130
 bY=>(nw bY [i64 0,LV.bool false,i64 0,i64 0,LV.str [],LV.nils,LV.nils] fun v132 iF=>ldA iF v2 7=some eQ∧ldA iF v0 7=some gE∧nw iF
 [i64 0,LV.bool false,i64 0,i64 0,LV.str [],LV.nils,LV.nils] fun v134 iN=>ldA iN v2 7=some eQ∧ldA iN v0 7=some gE∧oM v134 v92 v132 v130 aS nE
 aT iN R)∧nw bY [i64 0,LV.bool false,i64 0,i64 0,LV.str [],LV.nils,LV.nils] fun v140 iS=>ldA iS v2 7=some eQ∧ldA iS v0 7=some gE∧nw iS
 [i64 0,LV.bool false,i64 0,i64 0,LV.str [],LV.nils,LV.nils] fun v142 mK=>ldA mK v2 7=some eQ∧ldA mK v0 7=some gE∧oM v140 v92 v142 v130 aS nE
 aT mK R)))
theorem c12 (a0 a1 a2:LV) {R:LV.RT} {st:aa} (h:w12 a0 a1 a2 R st):LZ 12 [a0,a1,a2] st R:=
 cz [] Hq [.tmp 6] Tryz.func12 h
def gK (x7 iF v5 iN v3 x8 x9 x10 x11:LV) (eQ:aa) (R:LV.RT):Prop:=
 LZ 59 [x7,iF] eQ fun iS gE=>bd2 (lmk (stV gE 2 v5 iN)) fun _ gT=>bd2 (lmk (stV gT 2 v3 iS)) fun _ iD=>zG x8 x9 x10 x11 v5 v3 R iD
def kI (v1 x11 v2 x7 v7 v5 v3 x8 x9 x10:LV) (iD:aa) (R:LV.RT):Prop:=
 LZ 29 [v1] iD fun v9 eQ=>ldA eQ x11 7=some v2∧LZ 58 [x7,v7,v9] eQ fun iF gE=>ldA gE x11 7=some v2∧LZ 29 [v2] gE fun iN gT=>gK x7 iN v5 iF
 v3 x8 x9 x10 x11 gT R
def kJ (x11 v2 v1 x10 v0 gE iN gT iS x8 x9:LV) (eQ:aa) (R:LV.RT):Prop:=
 ldA eQ x11 7=some v2∧ldA eQ x11 7=some v1∧ldA eQ x10 7=some v0∧bd2 (lmk (stV eQ 2 gE iN)) fun _ iD=>bd2 (lmk (stV iD 2 gT iS)) fun _ iF=>zG x8 x9 x10 x11 gE gT
 R iF
def xb (x11 v2 v1 x10 v0 x7 iF iN x8 x9:LV) (gT:aa) (R:LV.RT):Prop:=
 (nw gT [i64 0,LV.str []] fun oR eQ=>ldA eQ x11 7=some v2∧ldA eQ x11 7=some v1∧ldA eQ x10 7=some v0∧LZ 29 [v2] eQ fun rW iS=>gK x7 rW oR
 iF iN x8 x9 x10 x11 iS R)∧LZ 29 [v2] gT fun mK iD=>(nw iD [i64 0,LV.str []] fun aS gE=>ldA gE x11 7=some v2∧ldA gE x11 7=some v1∧ldA gE x10 7 =
 some v0∧gK x7 mK aS iF iN x8 x9 x10 x11 gE R)∧LZ 59 [x7,mK] iD fun aT nE=>nw nE [i64 0,LV.str []] fun bY oF=>kJ x11 v2 v1 x10 v0 bY iF
 iN aT x8 x9 oF R
def rU (x11 v2 v1 x10 v0 x7 iN iS v3 x8 x9:LV) (gE:aa) (R:LV.RT):Prop:=
 (nw gE [i64 0,LV.str []] fun mK eQ=>ldA eQ x11 7=some v2∧ldA eQ x11 7=some v1∧ldA eQ x10 7=some v0∧LZ 58 [x7,iN,iS] eQ fun nE gT=>ldA gT x11 7=some
 v2∧LZ 29 [v2] gT fun oF iF=>gK x7 oF mK nE v3 x8 x9 x10 x11 iF R)∧LZ 58 [x7,iN,iS] gE fun oR iD=>ldA iD x11 7=some v2∧xb x11 v2 v1 x10 v0 x7 oR v3
 x8 x9 iD R
def xc (x11 v2 v1 x10 v0 x7 iF iN x8 x9:LV) (gT:aa) (R:LV.RT):Prop:=
 (nw gT [i64 0,LV.str []] fun oR eQ=>ldA eQ x11 7=some v2∧ldA eQ x11 7=some v1∧ldA eQ x10 7=some v0∧LZ 29 [v2] eQ fun rW iS=>gK x7 rW iF
 iN oR x8 x9 x10 x11 iS R)∧LZ 29 [v2] gT fun mK iD=>(nw iD [i64 0,LV.str []] fun aS gE=>ldA gE x11 7=some v2∧ldA gE x11 7=some v1∧ldA gE x10 7 =
 some v0∧gK x7 mK iF iN aS x8 x9 x10 x11 gE R)∧LZ 59 [x7,mK] iD fun aT nE=>nw nE [i64 0,LV.str []] fun bY oF=>kJ x11 v2 v1 x10 v0 iF iN
 bY aT x8 x9 oF R
def rV (x11 v2 v1 x10 v0 x7 oR iF rW x8 x9:LV) (gE:aa) (R:LV.RT):Prop:=
 (nw gE [i64 0,LV.str []] fun iS eQ=>ldA eQ x11 7=some v2∧ldA eQ x11 7=some v1∧ldA eQ x10 7=some v0∧LZ 58 [x7,oR,iF] eQ fun mK gT=>ldA gT x11
 7=some v2∧LZ 29 [v2] gT fun nE iN=>gK x7 nE rW mK iS x8 x9 x10 x11 iN R)∧LZ 58 [x7,oR,iF] gE fun oF iD=>ldA iD x11 7=some v2∧xc x11
 v2 v1 x10 v0 x7 rW oF x8 x9 iD R
def L6 (x7 x8 x9 x10 x11:LV) (R:LV.RT) (st:aa):Prop:=
 bd (ldA st x10 7) fun v0=>bd (ldA st x11 7) fun v1=>bd (ldA st x11 7) fun v2=>(nw st [i64 0,LV.str []] fun v3 st4=>ldA st4 x11 7=some v2∧ldA st4 x11 7=some v1∧ldA st4 x10 7=some v0∧
 (nw st4 [i64 0,LV.str []] fun v5 st6=>ldA st6 x11 7=some v2∧ldA st6 x11 7=some v1∧ldA st6 x10 7=some v0∧LZ 29 [v0] st6 fun v7 st8=>ldA st8 x11 7=some v2∧ldA st8 x11 7 =
 some v1∧kI v1 x11 v2 x7 v7 v5 v3 x8 x9 x10 st8 R)∧LZ 29 [v0] st4 fun v21 st22=>ldA st22 x11 7=some v2∧ldA st22 x11 7=some v1∧(nw st22 [i64 0,LV.str []] fun v23 st24=>ldA st24 x11 7=some v2∧ldA st24 x11 7=some v1∧ldA st24 x10 7=some v0∧kI v1 x11 v2 x7 v21 v23 v3 x8 x9 x10 st24 R)∧LZ 29 [v1] st22 fun v37 st38=>ldA st38 x11 7=some v2∧rU x11
 v2 v1 x10 v0 x7 v21 v37 v3 x8 x9 st38 R)∧(nw st [i64 0,LV.str []] fun v81 tO=>ldA tO x11 7=some v2∧ldA tO x11 7=some v1∧ldA tO x10 7=some v0∧(nw tO [i64 0,LV.str
 []] fun v83 st84=>ldA st84 x11 7=some v2∧ldA st84 x11 7=some v1∧ldA st84 x10 7=some v0∧LZ 29 [v0] st84 fun v85 st86=>ldA st86 x11 7=some v2∧ldA st86 x11 7=some v1∧kI v1 x11 v2
 x7 v85 v81 v83 x8 x9 x10 st86 R)∧LZ 29 [v0] tO fun v99 mK=>ldA mK x11 7=some v2∧ldA mK x11 7=some v1∧(nw mK [i64 0,LV.str []] fun v101 nE=>ldA nE x11 7 =
 some v2∧ldA nE x11 7=some v1∧ldA nE x10 7=some v0∧kI v1 x11 v2 x7 v99 v81 v101 x8 x9 x10 nE R)∧LZ 29 [v1] mK fun v115 st116=>ldA st116 x11 7=some v2∧rV x11 v2 v1 x10
 v0 x7 v99 v115 v81 x8 x9 st116 R)∧LZ 29 [v0] st fun iS eQ=>ldA eQ x11 7=some v2∧ldA eQ x11 7=some v1∧(nw eQ [i64 0,LV.str []] fun v161 gE=>ldA gE x11 7 =
 some v2∧ldA gE x11 7=some v1∧ldA gE x10 7=some v0∧(nw gE [i64 0,LV.str []] fun v163 oF=>ldA oF x11 7=some v2∧ldA oF x11 7=some v1∧ldA oF x10 7=some v0∧kI
 v1 x11 v2 x7 iS v163 v161 x8 x9 x10 oF R)∧LZ 29 [v1] gE fun v177 st178=>ldA st178 x11 7=some v2∧rU x11 v2 v1 x10 v0 x7 iS v177 v161 x8 x9 st178 R)∧(nw eQ [i64 0,
 LV.str []] fun v221 gT=>ldA gT x11 7=some v2∧ldA gT x11 7=some v1∧ldA gT x10 7=some v0∧(nw gT [i64 0,LV.str []] fun v223 oR=>ldA oR x11 7=some v2∧ldA oR x11 7
 = some v1∧ldA oR x10 7=some v0∧kI v1 x11 v2 x7 iS v221 v223 x8 x9 x10 oR R)∧LZ 29 [v1] gT fun v237 st238=>ldA st238 x11 7=some v2∧rV x11 v2 v1 x10 v0 x7 iS v237 v221 x8
 x9 st238 R)∧LZ 29 [v1] eQ fun v281 rW=>ldA rW x11 7=some v2∧(nw rW [i64 0,LV.str []] fun v283 aS=>ldA aS x11 7=some v2∧ldA aS x11 7=some v1∧ldA aS
 x10 7=some v0∧rU x11 v2 v1 x10 v0 x7 iS v281 v283 x8 x9 aS R)∧(nw rW [i64 0,LV.str []] fun v327 aT=>ldA aT x11 7=some v2∧ldA aT x11 7=some v1∧ldA aT x10 7=some
 v0∧rV x11 v2 v1 x10 v0 x7 iS v281 v327 x8 x9 aT R)∧LZ 58 [x7,iS,v281] rW fun iD bY=>ldA bY x11 7=some v2∧(nw bY [i64 0,LV.str []] fun v373 dO=>ldA
 dO x11 7=some v2∧ldA dO x11 7=some v1∧ldA dO x10 7=some v0∧xb x11 v2 v1 x10 v0 x7 iD v373 x8 x9 dO R)∧(nw bY [i64 0,LV.str []] fun v403 lE=>ldA lE x11 7=some
 v2∧ldA lE x11 7=some v1∧ldA lE x10 7=some v0∧xc x11 v2 v1 x10 v0 x7 v403 iD x8 x9 lE R)∧LZ 29 [v2] bY fun v433 st434=>(nw st434 [i64 0,LV.str []] fun v435
 iF=>ldA iF x11 7=some v2∧ldA iF x11 7=some v1∧ldA iF x10 7=some v0∧(nw iF [i64 0,LV.str []] fun v437 lT=>ldA lT x11 7=some v2∧ldA lT x11 7=some v1∧ldA
 lT x10 7=some v0∧gK x7 v433 v437 iD v435 x8 x9 x10 x11 lT R)∧LZ 59 [x7,v433] iF fun v445 st446=>nw st446 [i64 0,LV.str []] fun v447 st448=>kJ x11 v2 v1 x10
 v0 v447 iD v435 v445 x8 x9 st448 R)∧(nw st434 [i64 0,LV.str []] fun v453 iN=>ldA iN x11 7=some v2∧ldA iN x11 7=some v1∧ldA iN x10 7=some v0∧(nw iN [i64 0,
 LV.str []] fun v455 p7=>ldA p7 x11 7=some v2∧ldA p7 x11 7=some v1∧ldA p7 x10 7=some v0∧gK x7 v433 v453 iD v455 x8 x9 x10 x11 p7 R)∧LZ 59 [x7,v433] iN fun v463
 st464=>nw st464 [i64 0,LV.str []] fun v465 st466=>kJ x11 v2 v1 x10 v0 v453 iD v465 v463 x8 x9 st466 R)∧LZ 59 [x7,v433] st434 fun v471 st472=>(nw st472 [i64 0,
 LV.str []] fun v473 p8=>ldA p8 x11 7=some v2∧ldA p8 x11 7=some v1∧ldA p8 x10 7=some v0∧nw p8 [i64 0,LV.str []] fun v475 st476=>kJ x11 v2 v1 x10 v0 v475 iD v473 v471
 x8 x9 st476 R)∧nw st472 [i64 0,LV.str []] fun v481 p9=>ldA p9 x11 7=some v2∧ldA p9 x11 7=some v1∧ldA p9 x10 7=some v0∧nw p9 [i64 0,LV.str []] fun v483 st484
 => kJ x11 v2 v1 x10 v0 v481 iD v483 v471 x8 x9 st484 R
theorem Py (x7 x8 x9 x10 x11:LV) {R:LV.RT} {st:aa} (h:L6 x7 x8 x9 x10 x11 R st):ia x7 x8 x9 x10 x11 R st:=
 pz [] Hq h
def Ht (x8 x9 x10 x11 x12 x13:LV) (R:LV.RT) (st:aa):Prop:=
 bd (ldA st x10 7) fun v0=>bd (ldA st x11 7) fun v1=>bd (ldA st x10 7) fun v2=>bd (ldA st x11 7) fun v3=>LZ 29 [v0] st fun v4 eQ=>ldA eQ x11 7=some v3∧
 ldA eQ x10 7=some v2∧
 ldA eQ x11 7=some v1∧
 LZ 29 [v1] eQ fun v6 gE=>ldA gE x11 7=some v3∧
 ldA gE x10 7=some v2∧
 LZ 56 [v4,v6] gE fun v8 gT=>ldA gT x11 7=some v3∧
 ldA gT x10 7=some v2∧LZ 60 [v2,v3] gT fun iF iD=>bd (yx BinOp.neq v8 iF) fun iN=>L5 x8 x9 x10 x11 x12 x13 iN R iD
theorem L7 (x8 x9 x10 x11 x12 x13:LV) {R:LV.RT} {st:aa} (h:Ht x8 x9 x10 x11 x12 x13 R st):zG x8 x9 x10 x11 x12 x13 R st:=
 pz [] Hq h
def Hu (x8 x9 x10 x11 x12 x13 x55:LV) (R:LV.RT) (st:aa):Prop:=
 aq x55 (R (LV.bool false) st)
 (bd (al BinOp.gtr x9 (i64 0)) fun v0=>aq v0
 (bd (ldA st x12 2) fun v1=>bd (bh (aB (aF [(0,1),(1,1)]) [i64 0,LV.str []] [(0,i64 1)])) fun v2=>bd (eqB BinOp.eql (og (leq Tryz.prog 64 92) v1 v2)) fun v3=>aq v3 (bd (ldA st x13 2) fun v4=>bd (ldA st x12 2) fun v5=>bd (eqB BinOp.eql (og (leq Tryz.prog 64 92) v4 v5)) fun v6=>R v6 st) (R (LV.bool false) st))
 (bd (ldA st x12 2) fun v7=>bd (ldA st x8 2) fun v8=>bd (ldA st x10 7) fun v9=>bd (ldA st x11 7) fun iN=>LZ 62 [v8,v9,iN,LV.bool true] st fun iS gE=>ldA gE x12 2=some v7∧
 LZ 61 [v7,iS] gE fun mK eQ=>aq mK
 (bd (ldA eQ x13 2) fun iF=>bd (ldA eQ x8 2) fun nE=>bd (ldA eQ x10 7) fun oF=>bd (ldA eQ x11 7) fun oR=>LZ 62 [nE,oF,oR,LV.bool false] eQ fun rW gT=>ldA gT x13 2=some iF∧LZ 61 [iF,rW] gT fun aS iD=>BO aS R iD)
 (BO (LV.bool false) R eQ)))
theorem L8 (x8 x9 x10 x11 x12 x13 x55:LV) {R:LV.RT} {st:aa} (h:Hu x8 x9 x10 x11 x12 x13 x55 R st):L5 x8 x9 x10 x11 x12 x13 x55 R st:=
 pz [] Hq h
def NM (x6:LV) (R:LV.RT) (st:aa):Prop:=
 R x6 st
theorem NN (x6:LV) {R:LV.RT} {st:aa} (h:NM x6 R st):BO x6 R st:=
 pz [] Hq h
def u5 (x2 x3 x5:LV) (R:LV.RT) (st:aa):Prop:=LTg Tryz.prog (kindOf false) [.tmp 4] (br Tryz.f60 9) [] R (.aY::.aY::x2::x3::.aY::x5::(LV.jk 60 [])) st
def Pz:List Nat:=(LV.gx 0 66 [2,3,5])
def w60 (a0 a1:LV) (R:LV.RT) (st:aa):Prop:=
 bd2 (cu st a0) fun v0 gT=>bd2 (cu gT a1) fun v2 eQ=>bd (ag 0 v0) fun v4=>bd (ld1 eQ v4) fun v5=>bd (al BinOp.eql v5 (i64 1)) fun v6=>aq v6 (R (LV.bool true) eQ)
 (bd (ag 0 v0) fun v7=>bd (ld1 eQ v7) fun v8=>bd (ag 0 v2) fun v9=>bd (ld1 eQ v9) fun iD=>bd (al BinOp.neq v8 iD) fun iF=>aq iF (R (LV.bool false) eQ)
 (bd (ag 5 v0) fun iN=>bd (ld1 eQ iN) fun iS=>bd (bB iS) fun mK=>bd (ag 5 v2) fun nE=>bd (ld1 eQ nE) fun oF=>bd (bB oF) fun oR=>bd (al BinOp.neq mK oR) fun rW=>aq rW (R (LV.bool false) eQ)
 (bd (ag 0 v0) fun aS=>bd (ld1 eQ aS) fun aT=>bd (al BinOp.lss aT (i64 6)) fun bY=>aq bY (bd (ldA eQ v0 7) fun dO=>bd (ldA eQ v2 7) fun lE=>LZ 125 [dO,lE] eQ fun lT gE=>R lT gE)
 (u5 v0 v2 (i64 0) R eQ))))
theorem c60 (a0 a1:LV) {R:LV.RT} {st:aa} (h:w60 a0 a1 R st):LZ 60 [a0,a1] st R:=
 cz Pz [] [.tmp 4] Tryz.func60 h
def Hv (x2 x3 x5:LV) (R:LV.RT) (st:aa):Prop:=
 bd (ag 5 x2) fun v0=>bd (ld1 st v0) fun v1=>bd (bB v1) fun v2=>bd (al BinOp.lss x5 v2) fun v3=>aq v3
 (bd (ag 0 x2) fun v4=>bd (ld1 st v4) fun v5=>bd (al BinOp.eql v5 (i64 7)) fun v6=>aq v6
 (bd (ag 6 x2) fun v7=>bd (ld1 st v7) fun v8=>bd (bn 1 v8 x5) fun v9=>bd (ld1 st v9) fun gT=>bd (ag 6 x3) fun iD=>bd (ld1 st iD) fun iF=>bd (bn 1 iF x5) fun iN=>bd (ld1 st iN) fun iS=>bd (ck BinOp.neq gT iS) fun mK=>aq mK (R (LV.bool false) st)
 (bd (ag 5 x2) fun nE=>bd (ld1 st nE) fun oF=>bd (bn 7 oF x5) fun oR=>bd (ldA st oR 7) fun rW=>bd (ag 5 x3) fun aS=>bd (ld1 st aS) fun aT=>bd (bn 7 aT x5) fun bY=>bd (ldA st bY 7) fun dO=>LZ 60 [rW,dO] st fun lE eQ=>bd (lun UnOp.not lE) fun lT=>aq lT (R (LV.bool false) eQ) (bd (al BinOp.add x5 (i64 1)) fun p7=>u5 x2 x3 p7 R eQ)))
 (bd (ag 5 x2) fun p8=>bd (ld1 st p8) fun p9=>bd (bn 7 p9 x5) fun tO=>bd (ldA st tO 7) fun v31=>bd (ag 5 x3) fun v32=>bd (ld1 st v32) fun v33=>bd (bn 7 v33 x5) fun v34=>bd (ldA st v34 7) fun v35=>LZ 60 [v31,v35] st fun v36 gE=>bd (lun UnOp.not v36) fun v38=>aq v38 (R (LV.bool false) gE) (bd (al BinOp.add x5 (i64 1)) fun v39=>u5 x2 x3 v39 R gE)))
 (R (LV.bool true) st)
theorem L9 (x2 x3 x5:LV) {R:LV.RT} {st:aa} (h:Hv x2 x3 x5 R st):u5 x2 x3 x5 R st:=
 pz Pz [] h
def w61 (a0 a1:LV) (R:LV.RT) (st:aa):Prop:=
 bd2 (cu st a0) fun v0 gE=>bd2 (cu gE a1) fun v2 eQ=>bd (ag 0 v0) fun v4=>bd (ld1 eQ v4) fun v5=>bd (ag 0 v2) fun v6=>bd (ld1 eQ v6) fun v7=>bd (al BinOp.eql v5 v7) fun v8=>aq v8 (bd (ag 1 v0) fun v9=>bd (ld1 eQ v9) fun gT=>bd (ag 1 v2) fun iD=>bd (ld1 eQ iD) fun iF=>bd (ck BinOp.eql gT iF) fun iN=>R iN eQ)
 (R (LV.bool false) eQ)
theorem c61 (a0 a1:LV) {R:LV.RT} {st:aa} (h:w61 a0 a1 R st):LZ 61 [a0,a1] st R:=
 cz [] [] [.tmp 4] Tryz.func61 h
def DP (x3 x4 x5 x6 x8 x11:LV) (R:LV.RT) (st:aa):Prop:=LTg Tryz.prog (kindOf false) [.cell 8 97] (br Tryz.f62 6) [] R (LV.jk 3 (x3::x4::x5::x6::.aY::x8::.aY::.aY::x11::(LV.jk 58 []))) st
def DQ (x3 x4 x5 x6 x8 x11 x12:LV) (R:LV.RT) (st:aa):Prop:=LTg Tryz.prog (kindOf false) [.cell 8 97] (br Tryz.f62 9) [] R (LV.jk 3 (x3::x4::x5::x6::.aY::x8::.aY::.aY::x11::x12::(LV.jk 57 []))) st
def xd (x3 x4 x5 x6 x8 x11 x61:LV) (R:LV.RT) (st:aa):Prop:=LTg Tryz.prog (kindOf false) [.cell 8 97] (br Tryz.f62 12) [] R (LV.jk 3 (x3::x4::x5::x6::.aY::x8::.aY::.aY::x11::(LV.jk 49 (x61::(LV.jk 8 []))))) st
def Km:List Nat:=(LV.gx 0 70 [3,4,5,6,8,11])
def Kn:List (Nat × List Nat):=[(7,(LV.gx 0 70 [3,4,5,6,8,11,12])),(10,(LV.gx 0 70 [3,4,5,6,8,11,61]))]
def w62 (a0 a1 a2 a3:LV) (R:LV.RT) (st:aa):Prop:=
 bd2 (cu st a0) fun v0 iF=>bd2 (cu iF a1) fun v2 iN=>bd2 (cu iN a2) fun v4 iS=>nw iS [i64 0,LV.str []] fun v6 gT=>bd (ldA gT v0 2) fun v8=>bd (ldA gT v4 7) fun v9=>LZ 45 [v8,v9] gT fun iD eQ=>bd (ai iD 0) fun mK=>bd (ai iD 1) fun nE=>bd (al BinOp.neq nE (i64 0)) fun oF=>aq oF
 (bd (bh (aB (aF [(0,1),(1,1)]) [i64 0,LV.str []] [(0,i64 1),(1,mK)])) fun oR=>bd2 (lmk (stV eQ 2 v6 oR)) fun _ gE=>bd (ldA gE v6 2) fun rW=>R rW gE)
 (DP a3 v0 v2 v4 v6 (i64 0) R eQ)
theorem c62 (a0 a1 a2 a3:LV) {R:LV.RT} {st:aa} (h:w62 a0 a1 a2 a3 R st):LZ 62 [a0,a1,a2,a3] st R:=
 cz Km Kn [.cell 8 97] Tryz.func62 h
def Hw (x3 x4 x5 x6 x8 x11:LV) (R:LV.RT) (st:aa):Prop:=
 bd (ag 1 x4) fun v0=>bd (ld1 st v0) fun v1=>bd (bB v1) fun v2=>bd (al BinOp.lss x11 v2) fun v3=>aq v3
 (bd (ldA st x6 7) fun v4=>bd (ag 1 x4) fun v5=>bd (ld1 st v5) fun v6=>bd (bn 10 v6 x11) fun v7=>bd (ag 0 v7) fun v8=>bd (ld1 st v8) fun v9=>(nw st [i64 0,LV.bool false,i64 0,i64 0,LV.str [],LV.nils,LV.nils] fun mK eQ=>ld1 eQ v8=some v9∧
 ld1 eQ v5=some v6∧
 ldA eQ x6 7=some v4∧LZ 103 [v4,v9] eQ fun oF iD=>bd2 (lmk (stV iD 7 mK oF)) fun _ iF=>DQ x3 x4 x5 x6 x8 x11 mK R iF)∧
 LZ 103 [v4,v9] st fun oR iN=>nw iN [i64 0,LV.bool false,i64 0,i64 0,LV.str [],LV.nils,LV.nils] fun nE gE=>ld1 gE v8=some v9∧ld1 gE v5=some v6∧ldA gE x6 7=some v4∧bd2 (lmk (stV gE 7 nE oR)) fun _ iS=>DQ x3 x4 x5 x6 x8 x11 nE R iS)
 (bd (bh (aB (aF [(0,1),(1,1)]) [i64 0,LV.str []] [])) fun rW=>bd2 (lmk (stV st 2 x8 rW)) fun _ gT=>bd (ldA gT x8 2) fun aS=>R aS gT)
theorem Ma (x3 x4 x5 x6 x8 x11:LV) {R:LV.RT} {st:aa} (h:Hw x3 x4 x5 x6 x8 x11 R st):DP x3 x4 x5 x6 x8 x11 R st:=
 pz Km Kn h
def Mb (x3 x4 x5 x6 x8 x11 x12:LV) (R:LV.RT) (st:aa):Prop:=
 bd (ldA st x12 7) fun v0=>LZ 126 [v0] st fun v1 eQ=>bd (lun UnOp.not v1) fun v3=>aq v3
 (bd (ag 1 x4) fun v4=>bd (ld1 eQ v4) fun v5=>bd (bn 10 v5 x11) fun v6=>bd (ag 0 v6) fun v7=>bd (ld1 eQ v7) fun v8=>bd (bh (aB (aF [(0,1),(1,1)]) [i64 0,LV.str []] [(0,i64 4),(1,v8)])) fun v9=>bd2 (lmk (stV eQ 2 x8 v9)) fun _ gE=>bd (ldA gE x8 2) fun iN=>R iN gE)
 (aq x3
 (bd (ldA eQ x5 7) fun iS=>bd (ag 1 x4) fun mK=>bd (ld1 eQ mK) fun nE=>bd (bn 10 nE x11) fun oF=>bd (ag 0 oF) fun oR=>bd (ld1 eQ oR) fun rW=>bd (ldA eQ x12 7) fun iF=>LZ 103 [iS,rW] eQ fun aS gT=>ldA gT x12 7=some iF∧LZ 60 [aS,iF] gT fun aT iD=>bd (lun UnOp.not aT) fun bY=>xd x3 x4 x5 x6 x8 x11 bY R iD)
 (xd x3 x4 x5 x6 x8 x11 (LV.bool false) R eQ))
theorem PA (x3 x4 x5 x6 x8 x11 x12:LV) {R:LV.RT} {st:aa} (h:Mb x3 x4 x5 x6 x8 x11 x12 R st):DQ x3 x4 x5 x6 x8 x11 x12 R st:=
 pz Km Kn h
def BP (x3 x4 x5 x6 x8 x11 x61:LV) (R:LV.RT) (st:aa):Prop:=
 aq x61
 (bd (ag 1 x4) fun v0=>bd (ld1 st v0) fun v1=>bd (bn 10 v1 x11) fun v2=>bd (ag 0 v2) fun v3=>bd (ld1 st v3) fun v4=>bd (bh (aB (aF [(0,1),(1,1)]) [i64 0,LV.str []] [(0,i64 5),(1,v4)])) fun v5=>bd2 (lmk (stV st 2 x8 v5)) fun _ eQ=>bd (ldA eQ x8 2) fun v8=>R v8 eQ)
 (bd (al BinOp.add x11 (i64 1)) fun v9=>DP x3 x4 x5 x6 x8 v9 R st)
theorem NO (x3 x4 x5 x6 x8 x11 x61:LV) {R:LV.RT} {st:aa} (h:BP x3 x4 x5 x6 x8 x11 x61 R st):xd x3 x4 x5 x6 x8 x11 x61 R st:=
 pz Km Kn h
def xe (x2 x3 x5:LV) (R:LV.RT) (st:aa):Prop:=LTg Tryz.prog (kindOf false) [.tmp 4] (br Tryz.f125 5) [] R (.aY::.aY::x2::x3::.aY::x5::(LV.jk 79 [])) st
def Mc:List Nat:=(LV.gx 0 85 [2,3,5])
def PB (a0 a1:LV) (R:LV.RT) (st:aa):Prop:=
 bd2 (cu st a0) fun v0 gE=>bd2 (cu gE a1) fun v2 eQ=>bd (ag 0 v0) fun v4=>bd (ld1 eQ v4) fun v5=>bd (ag 0 v2) fun v6=>bd (ld1 eQ v6) fun v7=>bd (al BinOp.neq v5 v7) fun v8=>aq v8 (R (LV.bool false) eQ)
 (bd (ag 1 v0) fun v9=>bd (ld1 eQ v9) fun gT=>bd (ag 1 v2) fun iD=>bd (ld1 eQ iD) fun iF=>bd (yx BinOp.neq gT iF) fun iN=>aq iN (R (LV.bool false) eQ)
 (bd (ag 2 v0) fun iS=>bd (ld1 eQ iS) fun mK=>bd (ag 2 v2) fun nE=>bd (ld1 eQ nE) fun oF=>bd (al BinOp.neq mK oF) fun oR=>aq oR (R (LV.bool false) eQ)
 (bd (ag 3 v0) fun rW=>bd (ld1 eQ rW) fun aS=>bd (ag 3 v2) fun aT=>bd (ld1 eQ aT) fun bY=>bd (al BinOp.neq aS bY) fun dO=>aq dO (R (LV.bool false) eQ)
 (bd (ag 4 v0) fun lE=>bd (ld1 eQ lE) fun lT=>bd (ag 4 v2) fun p7=>bd (ld1 eQ p7) fun p8=>bd (ck BinOp.neq lT p8) fun p9=>aq p9 (R (LV.bool false) eQ)
 (bd (ag 5 v0) fun tO=>bd (ld1 eQ tO) fun v30=>bd (bB v30) fun v31=>bd (ag 5 v2) fun v32=>bd (ld1 eQ v32) fun v33=>bd (bB v33) fun v34=>bd (al BinOp.neq v31 v34) fun v35=>aq v35 (R (LV.bool false) eQ) (xe v0 v2 (i64 0) R eQ))))))
theorem QZ (a0 a1:LV) {R:LV.RT} {st:aa} (h:PB a0 a1 R st):LZ 125 [a0,a1] st R:=
 cz Mc [] [.tmp 4] Tryz.func125 h
def Hx (x2 x3 x5:LV) (R:LV.RT) (st:aa):Prop:=
 bd (ag 5 x2) fun v0=>bd (ld1 st v0) fun v1=>bd (bB v1) fun v2=>bd (al BinOp.lss x5 v2) fun v3=>aq v3
 (bd (ag 5 x2) fun v4=>bd (ld1 st v4) fun v5=>bd (bn 7 v5 x5) fun v6=>bd (ldA st v6 7) fun v7=>bd (ag 5 x3) fun v8=>bd (ld1 st v8) fun v9=>bd (bn 7 v9 x5) fun gE=>bd (ldA st gE 7) fun gT=>LZ 125 [v7,gT] st fun iD eQ=>bd (lun UnOp.not iD) fun iF=>aq iF (R (LV.bool false) eQ)
 (bd (ag 0 x2) fun iN=>bd (ld1 eQ iN) fun iS=>bd (al BinOp.eql iS (i64 7)) fun mK=>aq mK
 (bd (ag 6 x2) fun nE=>bd (ld1 eQ nE) fun oF=>bd (bn 1 oF x5) fun oR=>bd (ld1 eQ oR) fun rW=>bd (ag 6 x3) fun aS=>bd (ld1 eQ aS) fun aT=>bd (bn 1 aT x5) fun bY=>bd (ld1 eQ bY) fun dO=>bd (ck BinOp.neq rW dO) fun lE=>aq lE (R (LV.bool false) eQ) (bd (al BinOp.add x5 (i64 1)) fun lT=>xe x2 x3 lT R eQ))
 (bd (al BinOp.add x5 (i64 1)) fun p7=>xe x2 x3 p7 R eQ)))
 (R (LV.bool true) st)
theorem NP (x2 x3 x5:LV) {R:LV.RT} {st:aa} (h:Hx x2 x3 x5 R st):xe x2 x3 x5 R st:=
 pz Mc [] h
def xf (x1 x3:LV) (R:LV.RT) (st:aa):Prop:=LTg Tryz.prog (kindOf false) [.tmp 2] (br Tryz.f126 3) [] R (.aY::x1::.aY::x3::(LV.jk 17 [])) st
def Me:List Nat:=(LV.gx 0 21 [1,3])
def PC (a0:LV) (R:LV.RT) (st:aa):Prop:=
 bd2 (cu st a0) fun v0 eQ=>xf v0 (i64 0) R eQ
theorem Q0 (a0:LV) {R:LV.RT} {st:aa} (h:PC a0 R st):LZ 126 [a0] st R:=
 cz Me [] [.tmp 2] Tryz.func126 h
def BQ (x1 x3:LV) (R:LV.RT) (st:aa):Prop:=
 bd (ag 5 x1) fun v0=>bd (ld1 st v0) fun v1=>bd (bB v1) fun v2=>bd (al BinOp.lss x3 v2) fun v3=>aq v3
 (bd (ag 5 x1) fun v4=>bd (ld1 st v4) fun v5=>bd (bn 7 v5 x3) fun v6=>bd (ldA st v6 7) fun v7=>LZ 126 [v7] st fun v8 eQ=>bd (lun UnOp.not v8) fun gE=>aq gE (R (LV.bool false) eQ) (bd (al BinOp.add x3 (i64 1)) fun gT=>xf x1 gT R eQ))
 (bd (ag 0 x1) fun iD=>bd (ld1 st iD) fun iF=>bd (al BinOp.neq iF (i64 1)) fun iN=>R iN st)
theorem Hy (x1 x3:LV) {R:LV.RT} {st:aa} (h:BQ x1 x3 R st):xf x1 x3 R st:=
 pz Me [] h
end Go.Proofs.YtknegckgmklnhaaGreatDoor
