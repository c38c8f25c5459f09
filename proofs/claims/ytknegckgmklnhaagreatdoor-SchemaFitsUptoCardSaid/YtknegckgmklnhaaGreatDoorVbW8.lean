/- Parts of the proof. -/
import Derived.Test.YtknegckgmklnhaaGreatDoorVbW
namespace Go.Proofs.YtknegckgmklnhaaGreatDoor
open Go Go.CP
set_option maxRecDepth 100000
def Fs (x4:LV) (R:LV.RT) (st:aa):Prop:=LTg Tryz.prog (kindOf false) [.tmp 4] (aW Tryz.f7 17) [] R (LV.jk 4 (x4::(LV.jk 111 []))) st
def rc7:List (Nat × List Nat):=[(17,(LV.gx 0 116 [4]))]
def w7 (a0 a1:LV) (R:LV.RT) (st:aa):Prop:=
 bd2 (ca st a1) fun v0 st1=>bd (ldA st1 v0 7) fun v2=>LZ 24 [v2] st1 fun v3 st4=>bd (ah BinOp.gtr v3 (i64 0)) fun v5=>ak v5 (LZ 17 [] st4 fun v6 st7=>R v6 st7)
 (LZ 17 [] st4 fun v8 st9=>bd (lun UnOp.not v8) fun v10=>ak v10 (LZ 17 [] st9 fun v11 bY=>R v11 bY)
 (LZ 26 [a0] st9 fun dO lE=>bd (aj dO 0) fun aS=>bd (aj dO 1) fun v16=>bd (aj dO 2) fun v17=>nw lE [i64 0,LV.nils] fun aT lT=>bd2 (lmk (stV lT 2 aT v16)) fun _v20 gT=>bd (ah BinOp.gtr v17 (i64 0)) fun v22=>ak v22 (R (LV.bool true) gT)
 (bd (ldA gT v0 7) fun v23=>LZ 27 [v23] gT fun v24 p7=>nw p7 [i64 0,LV.bool false,i64 0,i64 0,LV.str [],LV.nils,LV.nils] fun iD p8=>bd2 (lmk (stV p8 7 iD v24)) fun _v28 iS=>bd (ldA iS iD 7) fun v30=>LZ 29 [v30] iS fun v31 p9=>LZ 41 [aS,v31] p9 fun v33 iF=>bd (aj v33 0) fun v35=>bd (aj v33 1) fun tO=>bd (ldA iF aT 2) fun v37=>bd (ldA iF iD 7) fun v38=>LZ 44 [v37,v38] iF fun v39 mK=>bd (aj v39 0) fun v41=>bd (aj v39 1) fun v42=>bd (ldA mK iD 7) fun v43=>LZ 29 [v43] mK fun v44 st45=>LZ 43 [aS,v44] st45 fun v46 iN=>bd (aj v46 0) fun v48=>bd (aj v46 1) fun v49=>bd (ldA iN aT 2) fun v50=>bd (ldA iN iD 7) fun v51=>LZ 45 [v50,v51] iN fun v52 nE=>bd (aj v52 0) fun v54=>bd (aj v52 1) fun v55=>bd (ldA nE iD 7) fun v56=>LZ 29 [v56] nE fun v57 st58=>LZ 42 [aS,v57] st58 fun v59 st60=>bd (aj v59 0) fun v61=>bd (aj v59 1) fun v62=>nw st60 [LV.nili] fun oF st64=>bd2 (lmk (stV st64 1 oF v61)) fun _v65 eQ=>bd (bE BinOp.neq v35 v41) fun v67=>ak v67 (R (LV.bool false) eQ)
 (bd (ah BinOp.neq tO v42) fun v68=>ak v68 (R (LV.bool false) eQ)
 (bd (bE BinOp.neq v48 v54) fun v69=>ak v69 (R (LV.bool false) eQ)
 (bd (ah BinOp.neq v49 v55) fun v70=>ak v70 (R (LV.bool false) eQ)
 (bd (ah BinOp.neq v62 tO) fun v71=>ak v71 (R (LV.bool false) eQ)
 (bd (ah BinOp.neq tO (i64 0)) fun v72=>ak v72
 (bd (ldA eQ oF 1) fun v73=>LZ 46 [v73] eQ fun v74 st75=>bd (ah BinOp.eql v74 (i64 0)) fun v76=>R v76 st75)
 (bd (ldA eQ oF 1) fun v77=>LZ 43 [aS,v77] eQ fun v78 gE=>bd (aj v78 0) fun _v80=>bd (aj v78 1) fun v81=>bd (ldA gE oF 1) fun v82=>bd (ldA gE aT 2) fun v83=>bd (ldA gE iD 7) fun v84=>LZ 47 [v83,v84] gE fun v85 oR=>ldA oR oF 1=some v82∧
 LZ 31 [v82,v85] oR fun v87 rW=>bd (ah BinOp.eql v87 (i64 0)) fun v89=>ak v89
 (bd (ah BinOp.eql v81 (i64 0)) fun v90=>Fs v90 R rW)
 (Fs (LV.bool false) R rW))))))))))
theorem c7 (a0 a1:LV) {R:LV.RT} {st:aa} (h:w7 a0 a1 R st):LZ 7 [a0,a1] st R:=
 cz [] rc7 [.tmp 4] Tryz.func7 h
def M4 (x4:LV) (R:LV.RT) (st:aa):Prop:=
 R x4 st
theorem M5 (x4:LV) {R:LV.RT} {st:aa} (h:M4 x4 R st):Fs x4 R st:=
 pz [] rc7 h
end Go.Proofs.YtknegckgmklnhaaGreatDoor
