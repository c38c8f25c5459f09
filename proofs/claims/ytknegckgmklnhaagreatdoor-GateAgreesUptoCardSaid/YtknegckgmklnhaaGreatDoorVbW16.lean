/- Parts of the proof. -/
import Derived.Test.YtknegckgmklnhaaGreatDoorCp53
namespace Go.Proofs.YtknegckgmklnhaaGreatDoor
open Go Go.CP
set_option maxRecDepth 100000
def fR (x4 x7 x8:LV) (R:LV.RT) (Y:aa→Prop) (st:aa):Prop:=LTz Tryz.prog [.cell 4 57,.tmp 5] (du Tryz.f180 6) [] R Y (LV.jk 4 (x4::.aJ::.aJ::x7::x8::(LV.jk 35 []))) st
def zQ:List (Nat × List Nat):=[(6,[0,1,2,3,5,6,9,10,11,12,13,14,15,16,17,18,19,20,21,22,23,24,25,26,27,28,29,30,31,32,33,34,35,36,37,38,39,40,41,42,43])]
def xo (a0:LV) (a1:LV) (R:LV.RT) (Y:aa→Prop) (st:aa):Prop:=
 bd2 (cy st a0) fun v0 st1=>bd2 (cy st1 a1) fun v2 st3=>nw st3 [LV.nili] fun v4 eQ=>bd (aK 1 v2) fun v6=>bd (ld1 eQ v6) fun v7=>bd (aU BinOp.geq v7 (i64 0)) fun v8=>aL v8
 (bd (aK 0 v2) fun v9=>bd (ld1 eQ v9) fun v10=>bd (pC BinOp.eql v10 (LV.str [])) fun v11=>aL v11
 (bd (aK 0 v0) fun v12=>bd (ld1 eQ v12) fun v13=>asZ 171 (some LV.nils) v13
 (fun p8=>bd (aK 1 v2) fun v15=>bd (ld1 eQ v15) fun v16=>bd (bg p8) fun v17=>bd (aU BinOp.geq v16 v17) fun v18=>aL v18
 (bd (bG (aV (aQ [(0,1)]) [LV.nili] [])) fun v19=>bd2 (lmk (stV eQ 1 v4 v19)) fun _v20 mK=>bd (ldA mK v4 1) fun v22=>R (LV.tup [v22,i64 2]) mK)
 (bd (aK 1 v2) fun v23=>bd (ld1 eQ v23) fun v24=>bd (bF 1 p8 v24) fun v25=>bd (ldA eQ v25 1) fun v26=>bd2 (lmk (stV eQ 1 v4 v26)) fun _v27 nE=>bd (ldA nE v4 1) fun v29=>R (LV.tup [v29,i64 0]) nE))
 (Y eQ))
 (bd (aK 0 v0) fun aT=>bd (ld1 eQ aT) fun rW=>bd (aK 0 v2) fun oF=>bd (ld1 eQ oF) fun iN=>(nw eQ [LV.nili] fun p9 gE=>ld1 gE oF=some iN∧
 ld1 gE aT=some rW∧
 asZ 173 (some LV.nilm) rW
 (fun v36=>ld1 gE oF=some iN∧
 bd (jb gE true (some (LV.agg [LV.nili])) v36 iN true) fun tO=>bd (ah tO 0) fun v38=>bd (ah tO 1) fun v39=>bd2 (lmk (stV gE 1 p9 v38)) fun _v40 bY=>fR v4 p9 v39 R Y bY)
 (Y gE))∧
 asZ 173 (some LV.nilm) rW
 (fun v42=>ld1 eQ oF=some iN∧
 bd (jb eQ true (some (LV.agg [LV.nili])) v42 iN true) fun c7=>bd (ah c7 0) fun v44=>bd (ah c7 1) fun v45=>nw eQ [LV.nili] fun v46 iD=>jb iD true (some (LV.agg [LV.nili])) v42 iN true=some c7∧
 ld1 iD oF=some iN∧ld1 iD aT=some rW∧bd2 (lmk (stV iD 1 v46 v44)) fun _v48 c8=>fR v4 v46 v45 R Y c8)
 (Y eQ)))
 (bd (aK 0 v0) fun dO=>bd (ld1 eQ dO) fun aC=>bd (aK 0 v2) fun oR=>bd (ld1 eQ oR) fun iS=>(nw eQ [LV.nili] fun v54 gT=>ld1 gT oR=some iS∧
 ld1 gT dO=some aC∧
 asZ 173 (some LV.nilm) aC
 (fun v56=>ld1 gT oR=some iS∧
 bd (jb gT true (some (LV.agg [LV.nili])) v56 iS true) fun v57=>bd (ah v57 0) fun v58=>bd (ah v57 1) fun v59=>bd2 (lmk (stV gT 1 v54 v58)) fun _v60 lE=>fR v4 v54 v59 R Y lE)
 (Y gT))∧
 asZ 173 (some LV.nilm) aC
 (fun v62=>ld1 eQ oR=some iS∧
 bd (jb eQ true (some (LV.agg [LV.nili])) v62 iS true) fun lT=>bd (ah lT 0) fun v64=>bd (ah lT 1) fun v65=>nw eQ [LV.nili] fun v66 iF=>jb iF true (some (LV.agg [LV.nili])) v62 iS true=some lT∧
 ld1 iF oR=some iS∧ld1 iF dO=some aC∧bd2 (lmk (stV iF 1 v66 v64)) fun _v68 p7=>fR v4 v66 v65 R Y p7)
 (Y eQ))
theorem xp (a0 a1:LV) (R:LV.RT) (Y:aa→Prop) (st:aa):ej Tryz.prog [.cell 4 57,.tmp 5] R Y [] [] zQ 3000 [.code (ay Tryz.f180)] [] ([a0,a1]++List.replicate (Tryz.f180.ntmps-2) af) st=xo a0 a1 R Y st:=by kernel_rfl
theorem Ca (a0 a1:LV) {R:LV.RT} {Y:aa→Prop} {st:aa} (h:xo a0 a1 R Y st):a7 Tryz.prog 180 [a0,a1] st R Y:=
 a7.ofE (n:=3000) ag Tryz.func180 (show Tryz.f180.body=some (ay Tryz.f180) by kernel_rfl) (by kernel_rfl) (show Tryz.f180.results.toList=[.cell 4 57,.tmp 5] by kernel_rfl) (xp a0 a1 R Y st) h
def mC (x4:LV) (x7:LV) (x8:LV) (R:LV.RT) (_Y:aa→Prop) (st:aa):Prop:=
 bd (lun UnOp.not x8) fun v0=>aL v0 (bd (bG (aV (aQ [(0,1)]) [LV.nili] [])) fun v1=>bd2 (lmk (stV st 1 x4 v1)) fun _ eQ=>bd (ldA eQ x4 1) fun v4=>R (LV.tup [v4,i64 8]) eQ)
 (bd (ldA st x7 1) fun v5=>bd2 (lmk (stV st 1 x4 v5)) fun _ gE=>bd (ldA gE x4 1) fun v8=>R (LV.tup [v8,i64 0]) gE)
theorem tJ (x4 x7 x8:LV) (R:LV.RT) (Y:aa→Prop) (st:aa):ej Tryz.prog [.cell 4 57,.tmp 5] R Y [] [] zQ 3000 (bB (du Tryz.f180 6)) [] (LV.jk 4 (x4::.aJ::.aJ::x7::x8::(LV.jk 35 []))) st=mC x4 x7 x8 R Y st:=by kernel_rfl
theorem yU (x4 x7 x8:LV) {R:LV.RT} {Y:aa→Prop} {st:aa} (h:mC x4 x7 x8 R Y st):fR x4 x7 x8 R Y st:=
 LTz.atE ag (tJ x4 x7 x8 R Y st) h
def mD (x2 x3 x4 x6 x8 x9:LV) (R:LV.RT) (Y:aa→Prop) (st:aa):Prop:=LTz Tryz.prog [.cell 6 57,.tmp 7] (du Tryz.f181 3) [] R Y (.aJ::.aJ::x2::x3::x4::.aJ::x6::.aJ::x8::x9::(LV.jk 49 [])) st
def iV (x2 x3 x4 x6 x8 x9 x38:LV) (R:LV.RT) (Y:aa→Prop) (st:aa):Prop:=LTz Tryz.prog [.cell 6 57,.tmp 7] (du Tryz.f181 4) [] R Y (.aJ::.aJ::x2::x3::x4::.aJ::x6::.aJ::x8::x9::(LV.jk 28 (x38::(LV.jk 20 [])))) st
def mF (x2 x3 x6 x9 x10:LV) (R:LV.RT) (Y:aa→Prop) (st:aa):Prop:=LTz Tryz.prog [.cell 6 57,.tmp 7] (du Tryz.f181 6) [] R Y (.aJ::.aJ::x2::x3::.aJ::.aJ::x6::.aJ::.aJ::x9::x10::(LV.jk 48 [])) st
def uL (x6 x7:LV) (R:LV.RT) (Y:aa→Prop) (st:aa):Prop:=LTz Tryz.prog [.cell 6 57,.tmp 7] (du Tryz.f181 9) [] R Y (LV.jk 6 (x6::x7::(LV.jk 51 []))) st
def r7:List (Nat × List Nat):=[(3,[0,1,5,7,10,11,12,13,14,15,16,17,18,19,20,21,22,23,24,25,26,27,28,29,30,31,32,33,34,35,36,37,38,39,40,41,42,43,44,45,46,47,48,49,50,51,52,53,54,55,56,57,58]),(4,[0,1,5,7,10,11,12,13,14,15,16,17,18,19,20,21,22,23,24,25,26,27,28,29,30,31,32,33,34,35,36,37,39,40,41,42,43,44,45,46,47,48,49,50,51,52,53,54,55,56,57,58]),(6,[0,1,4,5,7,8,11,12,13,14,15,16,17,18,19,20,21,22,23,24,25,26,27,28,29,30,31,32,33,34,35,36,37,38,39,40,41,42,43,44,45,46,47,48,49,50,51,52,53,54,55,56,57,58]),(9,[0,1,2,3,4,5,8,9,10,11,12,13,14,15,16,17,18,19,20,21,22,23,24,25,26,27,28,29,30,31,32,33,34,35,36,37,38,39,40,41,42,43,44,45,46,47,48,49,50,51,52,53,54,55,56,57,58])]
def uM (a0:LV) (a1:LV) (a2:LV) (R:LV.RT) (Y:aa→Prop) (st:aa):Prop:=
 bd2 (cy st a0) fun v0 dO=>bd2 (cy dO a1) fun v2 lE=>nw lE [LV.nili] fun v4 gT=>bd (bg a2) fun v6=>bd (aU BinOp.eql v6 (i64 0)) fun v7=>aL v7 (bd (ldA gT v2 1) fun v8=>bd2 (lmk (stV gT 1 v4 v8)) fun _ iD=>bd (ldA iD v4 1) fun lT=>R (LV.tup [lT,i64 0]) iD)
 (bd (ldA gT v0 1) fun iF=>bd (bF 2 a2 (i64 0)) fun iS=>bd (ldA gT iS 2) fun iN=>(nw gT [LV.nili] fun aT eQ=>ldA eQ iS 2=some iN∧
 ldA eQ v0 1=some iF∧
 a7 Tryz.prog 180 [iF,iN] eQ
 (fun bY mK=>bd (ah bY 0) fun p7=>bd (ah bY 1) fun p8=>bd2 (lmk (stV mK 1 aT p7)) fun _ nE=>mD a2 v0 v2 v4 aT p8 R Y nE)
 fun oF=>Y oF)∧
 a7 Tryz.prog 180 [iF,iN] gT
 (fun c7 oR=>bd (ah c7 0) fun p9=>bd (ah c7 1) fun tO=>nw oR [LV.nili] fun c8 gE=>ldA gE iS 2=some iN∧ldA gE v0 1=some iF∧bd2 (lmk (stV gE 1 c8 p9)) fun _ rW=>mD a2 v0 v2 v4 c8 tO R Y rW)
 fun aC=>Y aC)
theorem xq (a0 a1 a2:LV) (R:LV.RT) (Y:aa→Prop) (st:aa):ej Tryz.prog [.cell 6 57,.tmp 7] R Y [] [] r7 3000 [.code (ay Tryz.f181)] [] ([a0,a1,a2]++List.replicate (Tryz.f181.ntmps-3) af) st=uM a0 a1 a2 R Y st:=by kernel_rfl
theorem zR (a0 a1 a2:LV) {R:LV.RT} {Y:aa→Prop} {st:aa} (h:uM a0 a1 a2 R Y st):a7 Tryz.prog 181 [a0,a1,a2] st R Y:=
 a7.ofE (n:=3000) ag Tryz.func181 (show Tryz.f181.body=some (ay Tryz.f181) by kernel_rfl) (by kernel_rfl) (show Tryz.f181.results.toList=[.cell 6 57,.tmp 7] by kernel_rfl) (xq a0 a1 a2 R Y st) h
def kx (x2:LV) (x3:LV) (x4:LV) (x6:LV) (x8:LV) (x9:LV) (R:LV.RT) (Y:aa→Prop) (st:aa):Prop:=
 bd (aU BinOp.neq x9 (i64 0)) fun v0=>aL v0
 (bd (bg x2) fun v1=>bd (aU BinOp.gtr v1 (i64 1)) fun v2=>aL v2 (iV x2 x3 x4 x6 x8 x9 (LV.bool true) R Y st)
 (bd (ldA st x3 1) fun v3=>bd (bF 2 x2 (i64 0)) fun v4=>bd (ldA st v4 2) fun v5=>a7 Tryz.prog 217 [v3,v5,x9] st (fun v6 eQ=>bd (lun UnOp.not v6) fun v9=>iV x2 x3 x4 x6 x8 x9 v9 R Y eQ) fun gE=>Y gE))
 (iV x2 x3 x4 x6 x8 x9 (LV.bool false) R Y st)
theorem tK (x2 x3 x4 x6 x8 x9:LV) (R:LV.RT) (Y:aa→Prop) (st:aa):ej Tryz.prog [.cell 6 57,.tmp 7] R Y [] [] r7 3000 (bB (du Tryz.f181 3)) [] (.aJ::.aJ::x2::x3::x4::.aJ::x6::.aJ::x8::x9::(LV.jk 49 [])) st=kx x2 x3 x4 x6 x8 x9 R Y st:=by kernel_rfl
theorem yV (x2 x3 x4 x6 x8 x9:LV) {R:LV.RT} {Y:aa→Prop} {st:aa} (h:kx x2 x3 x4 x6 x8 x9 R Y st):mD x2 x3 x4 x6 x8 x9 R Y st:=
 LTz.atE ag (tK x2 x3 x4 x6 x8 x9 R Y st) h
def mG (x2:LV) (x3:LV) (x4:LV) (x6:LV) (x8:LV) (x9:LV) (x38:LV) (R:LV.RT) (Y:aa→Prop) (st:aa):Prop:=
 aL x38 (bd (bG (aV (aQ [(0,1)]) [LV.nili] [])) fun v0=>bd2 (lmk (stV st 1 x6 v0)) fun _ nE=>bd (ldA nE x6 1) fun v3=>R (LV.tup [v3,x9]) nE)
 (bd (ldA st x8 1) fun v4=>bd (ldA st x4 1) fun v5=>bd (ob3 (some (i64 1)) none none fun l h m=>cq st 2 x2 l h m) fun v6=>(nw st [LV.nili] fun v7 gE=>(ob3 (some (i64 1)) none none fun l h m=>cq gE 2 x2 l h m)=some v6∧
 ldA gE x4 1=some v5∧
 ldA gE x8 1=some v4∧
 a7 Tryz.prog 181 [v4,v5,v6] gE
 (fun v9 gT=>bd (ah v9 0) fun rW=>bd (ah v9 1) fun aC=>bd2 (lmk (stV gT 1 v7 rW)) fun _ iD=>mF x2 x3 x6 aC v7 R Y iD) fun iF=>Y iF)∧
 a7 Tryz.prog 181 [v4,v5,v6] st
 (fun oF iN=>bd (ah oF 0) fun aT=>bd (ah oF 1) fun bY=>nw iN [LV.nili] fun oR eQ=>(ob3 (some (i64 1)) none none fun l h m=>cq eQ 2 x2 l h m)=some v6∧
 ldA eQ x4 1=some v5∧ldA eQ x8 1=some v4∧bd2 (lmk (stV eQ 1 oR aT)) fun _ iS=>mF x2 x3 x6 bY oR R Y iS)
 fun mK=>Y mK)
theorem tL (x2 x3 x4 x6 x8 x9 x38:LV) (R:LV.RT) (Y:aa→Prop) (st:aa):ej Tryz.prog [.cell 6 57,.tmp 7] R Y [] [] r7 3000 (bB (du Tryz.f181 4)) [] (.aJ::.aJ::x2::x3::x4::.aJ::x6::.aJ::x8::x9::(LV.jk 28 (x38::(LV.jk 20 [])))) st=mG x2 x3 x4 x6 x8 x9 x38 R Y st:=by kernel_rfl
theorem uN (x2 x3 x4 x6 x8 x9 x38:LV) {R:LV.RT} {Y:aa→Prop} {st:aa} (h:mG x2 x3 x4 x6 x8 x9 x38 R Y st):iV x2 x3 x4 x6 x8 x9 x38 R Y st:=
 LTz.atE ag (tL x2 x3 x4 x6 x8 x9 x38 R Y st) h
def mH (x2:LV) (x3:LV) (x6:LV) (x9:LV) (x10:LV) (R:LV.RT) (Y:aa→Prop) (st:aa):Prop:=
 bd (aU BinOp.neq x9 (i64 0)) fun v0=>aL v0 (bd (bG (aV (aQ [(0,1)]) [LV.nili] [])) fun v1=>bd2 (lmk (stV st 1 x6 v1)) fun _ iD=>bd (ldA iD x6 1) fun v4=>R (LV.tup [v4,x9]) iD)
 (bd (ldA st x3 1) fun v5=>bd (ldA st x10 1) fun v6=>bd (bF 2 x2 (i64 0)) fun v7=>bd (ldA st v7 2) fun v8=>a7 Tryz.prog 218 [v5,v6,v8] st (fun v9 eQ=>bd2 (lmk (stV eQ 1 x6 v9)) fun _ gE=>uL x6 (i64 0) R Y gE) fun gT=>Y gT)
theorem tM (x2 x3 x6 x9 x10:LV) (R:LV.RT) (Y:aa→Prop) (st:aa):ej Tryz.prog [.cell 6 57,.tmp 7] R Y [] [] r7 3000 (bB (du Tryz.f181 6)) [] (.aJ::.aJ::x2::x3::.aJ::.aJ::x6::.aJ::.aJ::x9::x10::(LV.jk 48 [])) st=mH x2 x3 x6 x9 x10 R Y st:=by kernel_rfl
theorem uO (x2 x3 x6 x9 x10:LV) {R:LV.RT} {Y:aa→Prop} {st:aa} (h:mH x2 x3 x6 x9 x10 R Y st):mF x2 x3 x6 x9 x10 R Y st:=
 LTz.atE ag (tM x2 x3 x6 x9 x10 R Y st) h
def qm (x6:LV) (x7:LV) (R:LV.RT) (_Y:aa→Prop) (st:aa):Prop:=
 bd (ldA st x6 1) fun v0=>R (LV.tup [v0,x7]) st
theorem tN (x6 x7:LV) (R:LV.RT) (Y:aa→Prop) (st:aa):ej Tryz.prog [.cell 6 57,.tmp 7] R Y [] [] r7 3000 (bB (du Tryz.f181 9)) [] (LV.jk 6 (x6::x7::(LV.jk 51 []))) st=qm x6 x7 R Y st:=by kernel_rfl
theorem yW (x6 x7:LV) {R:LV.RT} {Y:aa→Prop} {st:aa} (h:qm x6 x7 R Y st):uL x6 x7 R Y st:=
 LTz.atE ag (tN x6 x7 R Y st) h
def mI (x4 x5 x6 x10 x11 x12 d0:LV) (R:LV.RT) (Y:aa→Prop) (st:aa):Prop:=LTz Tryz.prog [.cell 4 57,.cell 5 33] (du Tryz.f130 5) [(179,[d0])] R Y (LV.jk 4 (x4::x5::x6::(LV.jk 3 (x10::x11::x12::(LV.jk 15 []))))) st
def r8 (x4 x5 d0:LV) (R:LV.RT) (Y:aa→Prop) (st:aa):Prop:=LTz Tryz.prog [.cell 4 57,.cell 5 33] (du Tryz.f130 11) [(179,[d0])] R Y (LV.jk 4 (x4::x5::(LV.jk 22 []))) st
def xr:List Nat:=[0,1,2,3,7,8,9,13,14,15,16,17,18,19,20,21,22,23,24,25,26,27]
def xu:List (Nat × List Nat):=[(8,[0,1,2,3,6,7,8,9,10,11,12,13,14,15,16,17,18,19,20,21,22,23,24,25,26,27])]
def xv (a0:LV) (a1:LV) (R:LV.RT) (Y:aa→Prop) (st:aa):Prop:=
 bd2 (cy st a0) fun v0 gT=>nw gT [LV.nili] fun v2 iD=>nw iD [i64 0] fun v4 gE=>bd (ldA gE v0 1) fun v6=>nw gE [LV.nili] fun v7 iF=>bd2 (lmk (stV iF 1 v7 v6)) fun _ eQ=>bd (bg a1) fun iN=>mI v2 v4 v7 a1 iN (i64 0) v4 R Y eQ
theorem xw (a0 a1:LV) (R:LV.RT) (Y:aa→Prop) (st:aa):ej Tryz.prog [.cell 4 57,.cell 5 33] R Y xr [] xu 3000 [.code (ay Tryz.f130)] [] ([a0,a1]++List.replicate (Tryz.f130.ntmps-2) af) st=xv a0 a1 R Y st:=by kernel_rfl
theorem Cb (a0 a1:LV) {R:LV.RT} {Y:aa→Prop} {st:aa} (h:xv a0 a1 R Y st):a7 Tryz.prog 130 [a0,a1] st R Y:=
 a7.ofE (n:=3000) ag Tryz.func130 (show Tryz.f130.body=some (ay Tryz.f130) by kernel_rfl) (by kernel_rfl) (show Tryz.f130.results.toList=[.cell 4 57,.cell 5 33] by kernel_rfl) (xw a0 a1 R Y st) h
def mJ (x4:LV) (x5:LV) (x6:LV) (x10:LV) (x11:LV) (x12:LV) (d0:LV) (R:LV.RT) (Y:aa→Prop) (st:aa):Prop:=
 bd (aU BinOp.lss x12 x11) fun v0=>aL v0
 (bd (bF 2 x10 x12) fun v1=>bd (ldA st v1 2) fun v2=>nw st [LV.str [],i64 0] fun v3 aC=>bd2 (lmk (stV aC 2 v3 v2)) fun _ iF=>bd (ldA iF x6 1) fun v7=>bd (ldA iF v3 2) fun v8=>a7 Tryz.prog 180 [v7,v8] iF
 (fun v9 iN=>bd (ah v9 0) fun aT=>bd (ah v9 1) fun bY=>bd2 (lmk (stV iN 1 x6 aT)) fun _ iS=>bd2 (lmk (stV iS 1 x5 bY)) fun _ eQ=>bd (ld1 eQ x5) fun c7=>bd (aU BinOp.neq c7 (i64 0)) fun c8=>aL c8
 (bd (bG (aV (aQ [(0,1)]) [LV.nili] [])) fun dO=>bd (ld1 eQ x5) fun rW=>bd2 (lmk (stV eQ 1 x4 dO)) fun _ iD=>ld1 iD x5=some rW∧bd2 (lmk (stV iD 1 x5 rW)) fun _ mK=>r8 x4 x5 d0 R Y mK)
 (bd (aU BinOp.add x12 (i64 1)) fun lE=>mI x4 x5 x6 x10 x11 lE d0 R Y eQ))
 fun nE=>gS Tryz.prog 179 [d0] nE fun gE=>bd (ldA gE x4 1) fun lT=>bd (ld1 gE x5) fun p7=>R (LV.tup [lT,p7]) gE)
 (bd (ldA st x6 1) fun p8=>bd2 (lmk (stV st 1 x4 p8)) fun _ oF=>bd2 (lmk (stV oF 1 x5 (i64 0))) fun _ oR=>cG Tryz.prog 179 [d0] oR fun gT=>bd (ldA gT x4 1) fun p9=>bd (ld1 gT x5) fun tO=>R (LV.tup [p9,tO]) gT)
theorem tP (x4 x5 x6 x10 x11 x12 d0:LV) (R:LV.RT) (Y:aa→Prop) (st:aa):ej Tryz.prog [.cell 4 57,.cell 5 33] R Y xr [] xu 3000 (bB (du Tryz.f130 5)) [(179,[d0])] (LV.jk 4 (x4::x5::x6::(LV.jk 3 (x10::x11::x12::(LV.jk 15 []))))) st=mJ x4 x5 x6 x10 x11 x12 d0 R Y st:=by kernel_rfl
theorem uP (x4 x5 x6 x10 x11 x12 d0:LV) {R:LV.RT} {Y:aa→Prop} {st:aa} (h:mJ x4 x5 x6 x10 x11 x12 d0 R Y st):mI x4 x5 x6 x10 x11 x12 d0 R Y st:=
 LTz.atE ag (tP x4 x5 x6 x10 x11 x12 d0 R Y st) h
def nY (x4:LV) (x5:LV) (d0:LV) (R:LV.RT) (_Y:aa→Prop) (st:aa):Prop:=
 cG Tryz.prog 179 [d0] st fun eQ=>bd (ldA eQ x4 1) fun v1=>bd (ld1 eQ x5) fun v2=>R (LV.tup [v1,v2]) eQ
theorem r9 (x4 x5 d0:LV) (R:LV.RT) (Y:aa→Prop) (st:aa):ej Tryz.prog [.cell 4 57,.cell 5 33] R Y xr [] xu 3000 (bB (du Tryz.f130 11)) [(179,[d0])] (LV.jk 4 (x4::x5::(LV.jk 22 []))) st=nY x4 x5 d0 R Y st:=by kernel_rfl
theorem xx (x4 x5 d0:LV) {R:LV.RT} {Y:aa→Prop} {st:aa} (h:nY x4 x5 d0 R Y st):r8 x4 x5 d0 R Y st:=
 LTz.atE ag (r9 x4 x5 d0 R Y st) h
def xy (a0:LV) (a1:LV) (a2:LV) (R:LV.RT) (_Y:aa→Prop) (st:aa):Prop:=
 bd2 (cy st a0) fun v0 nE=>bd2 (cy nE a1) fun v2 oF=>nw oF [LV.nili] fun v4 oR=>nw oR [i64 0] fun v6 gT=>bd (ldA gT v0 1) fun v8=>bd (ldA gT v2 1) fun v9=>a7 Tryz.prog 181 [v8,v9,a2] gT
 (fun mK iD=>bd (ah mK 0) fun rW=>bd (ah mK 1) fun aC=>bd2 (lmk (stV iD 1 v4 rW)) fun _ iF=>bd2 (lmk (stV iF 1 v6 aC)) fun _ iN=>cG Tryz.prog 179 [v6] iN fun eQ=>bd (ldA eQ v4 1) fun aT=>bd (ld1 eQ v6) fun bY=>R (LV.tup [aT,bY]) eQ)
 fun iS=>gS Tryz.prog 179 [v6] iS fun gE=>bd (ldA gE v4 1) fun c7=>bd (ld1 gE v6) fun c8=>R (LV.tup [c7,c8]) gE
theorem xz (a0 a1 a2:LV) (R:LV.RT) (Y:aa→Prop) (st:aa):ej Tryz.prog [.cell 6 57,.cell 7 33] R Y [] [] [] 3000 [.code (ay Tryz.f131)] [] ([a0,a1,a2]++List.replicate (Tryz.f131.ntmps-3) af) st=xy a0 a1 a2 R Y st:=by kernel_rfl
theorem Cc (a0 a1 a2:LV) {R:LV.RT} {Y:aa→Prop} {st:aa} (h:xy a0 a1 a2 R Y st):a7 Tryz.prog 131 [a0,a1,a2] st R Y:=
 a7.ofE (n:=3000) ag Tryz.func131 (show Tryz.f131.body=some (ay Tryz.f131) by kernel_rfl) (by kernel_rfl) (show Tryz.f131.results.toList=[.cell 6 57,.cell 7 33] by kernel_rfl) (xz a0 a1 a2 R Y st) h
end Go.Proofs.YtknegckgmklnhaaGreatDoor
namespace Go.CP
inductive T where
 | null|unknown
 | bool (b:Bool)
 | int (n:Int)
 | point (a b:Int)
 | text (s:List UInt8)
 | list (l:List T)
 | map (es:List (List UInt8 × T))
namespace T
def kind:T→Int
 | null=>0
 | unknown=>1
 | bool _=>2
 | int _=>3
 | point _ _=>4
 | text _=>5
 | list _=>6
 | map _=>7
def keys:T→List (List UInt8)
 | map es=>es.map (·.1)
 | _=>[]
def items:T→List T
 | list l=>l
 | map es=>es.map (·.2)
 | _=>[]
theorem eH {t x:T} (h:x ∈ t.items):SizeOf.sizeOf x<SizeOf.sizeOf t:=by
 cases t<;>simp only[items,List.not_mem_nil] at h
 ·have:=List.sizeOf_lt_of_mem h
  simp;omega
 ·obtain ⟨e,he,rfl⟩:=List.mem_map.1 h
  have h1:=List.sizeOf_lt_of_mem he
  obtain ⟨k,v⟩:=e
  simp at h1 ⊢;omega
end T
def fb (n:Int):Nat:=FloatKind.f64.nearest n
abbrev ltB (a b:List UInt8):Prop:=Op.bytesLess a b=true
def big:Nat:=2 ^ 30
mutual
def T.ok:T→Prop
 | .int n=>-9223372036854775808≤n∧n<9223372036854775808
 | .point a b=>(-9007199254740992≤a∧a≤9007199254740992)∧(-9007199254740992≤b∧b≤9007199254740992)
 | .text s=>s.length≤big
 | .list l=>l.length≤big∧T.oks l
 | .map es=>es.length≤big∧T.okm es∧(es.map (·.1)).Pairwise ltB
 | _=>True
def T.oks:List T→Prop
 | []=>True
 | t::ts=>T.ok t∧T.oks ts
def T.okm:List (List UInt8 × T)→Prop
 | []=>True
 | e::es=>(e.1.length≤big∧T.ok e.2)∧T.okm es
end
theorem T.eL:∀ {l:List T},T.oks l↔∀ t ∈ l,t.ok
 | []=>by simp[T.oks]
 | t::ts=>by simp[T.oks,T.eL (l:=ts)]
theorem T.fi:∀ {l:List (List UInt8 × T)},T.okm l↔∀ e ∈ l,e.1.length≤big∧e.2.ok
 | []=>by simp[T.okm]
 | t::ts=>by simp[T.okm,T.fi (l:=ts)]
theorem lA:∀ x:List UInt8,Op.bytesLess x x=false
 | []=>rfl
 | a::x=>by simp[Op.bytesLess,lA x]
theorem fG:∀ {x y z:List UInt8},Op.bytesLess x y=true→Op.bytesLess y z=true→Op.bytesLess x z=true
 | _,_,[],_,h=>by simp[Op.bytesLess] at h
 | _,[],_::_,h,_=>by simp[Op.bytesLess] at h
 | [],_::_,_::_,_,_=>rfl
 | a::x,b::y,c::z,h,k=>by
  simp only[Op.bytesLess,Bool.or_eq_true,decide_eq_true_eq,aF,beq_iff_eq,UInt8.lt_iff_toNat_lt] at h k ⊢
  rcases h with h|⟨rfl,h⟩
  ·rcases k with k|⟨rfl,k⟩
   ·left;omega
   ·left;exact h
  ·rcases k with k|⟨rfl,k⟩
   ·left;exact k
   ·right;exact ⟨rfl,fG h k⟩
theorem qn:∀ {x y:List UInt8},Op.bytesLess x y=false→Op.bytesLess y x=false→x=y
 | [],[],_,_=>rfl
 | [],_::_,h,_=>by simp[Op.bytesLess] at h
 | _::_,[],_,h=>by simp[Op.bytesLess] at h
 | a::x,b::y,h,k=>by
  simp only[Op.bytesLess,Bool.or_eq_false_iff,decide_eq_false_iff_not,Bool.and_eq_false_iff,UInt8.lt_iff_toNat_lt] at h k
  have e:a=b:=UInt8.toNat_inj.1 (by omega)
  subst e
  simp only[beq_self_eq_true,Bool.true_eq_false,false_or] at h k
  rw[qn h.2 k.2]
theorem xA {x y:List UInt8} (h:Op.bytesLess x y=true):Op.bytesLess y x=false:=by
 rw[Bool.eq_false_iff]
 intro k
 have:=fG h k
 rw[lA] at this;cases this
theorem nZ {a b:List UInt8} (h:ltB a b):a≠b:=fun e=>by subst e;unfold ltB at h;rw[lA] at h;cases h
theorem cH {l:List (List UInt8)} (h:l.Pairwise ltB):l.Nodup:=h.imp nZ
def T.find (es:List (List UInt8 × T)) (k:List UInt8):Option T:=(es.find? fun e=>e.1==k).map (·.2)
def T.at (t:T) (k:List UInt8):Option T:=match t with
 | .map es=>T.find es k
 | _=>none
theorem T.gD {t:T} (h:t.ok):∀ x ∈ t.items,x.ok:=by
 cases t<;>simp only[T.items,List.not_mem_nil,false_implies,implies_true]
 ·simp only[T.ok] at h;exact T.eL.1 h.2
 ·simp only[T.ok] at h
  intro x hx
  obtain ⟨e,he,rfl⟩:=List.mem_map.1 hx
  exact (T.fi.1 h.2.1 e he).2
theorem T.ky {es:List (List UInt8 × T)} {k:List UInt8} {t:T} (h:T.find es k=some t):(k,t) ∈ es:=by
 unfold T.find at h
 obtain ⟨e,he,rfl⟩:=Option.map_eq_some_iff.1 h
 have h1:=List.mem_of_find?_eq_some he
 have h2:=List.find?_some he
 simp only[beq_iff_eq] at h2
 subst h2;exact h1
theorem T.mg {es:List (List UInt8 × T)} (hn:(es.map (·.1)).Nodup) {k:List UInt8} {t:T} (h:(k,t) ∈ es):T.find es k=some t:=by
 induction es with
 | nil=>cases h
 | cons e es ih=>
  simp only[List.map_cons,List.nodup_cons] at hn
  rcases List.mem_cons.1 h with rfl|h
  ·simp[T.find]
  ·have hne:e.1≠k:=fun c=>hn.1 (c ▸ List.mem_map.2 ⟨_,h,rfl⟩)
   have:=ih hn.2 h
   unfold T.find at this ⊢
   rw[List.find?_cons_of_neg (by simpa using hne)];exact this
theorem T.wb {es:List (List UInt8 × T)} {k:List UInt8}:T.find es k=none↔k ∉ es.map (·.1):=by
 unfold T.find
 simp only[Option.map_eq_none_iff,List.find?_eq_none,beq_iff_eq,qH,not_exists,not_and]
end Go.CP
namespace Go.Proofs.YtknegckgmklnhaaGreatDoor
open Go Go.CP
set_option maxRecDepth 100000
mutual
def lvT:T→LV
 | .null=>.nili
 | .unknown=>.iface 169 (.agg [])
 | .bool b=>.iface 4 (.bool b)
 | .int n=>.iface 3 (.int .i64 n)
 | .point a b=>.iface 170 (.cplx .f64 (fb a) (fb b))
 | .text s=>.iface 9 (.str s)
 | .list l=>.iface 171 (.isl (cn l) l.length none)
 | .map es=>.iface 173 (.imap (es.map fun e=>.str e.1) (dI es))
def cn:List T→List LV
 | []=>[]
 | t::ts=>lvT t::cn ts
def dI:List (List UInt8 × T)→List LV
 | []=>[]
 | e::es=>.agg [lvT e.2]::dI es
end
abbrev vT (t:T):LV:=.agg [lvT t]
theorem kz:∀ {l:List T},cn l=l.map lvT
 | []=>rfl
 | t::ts=>by simp[cn,kz (l:=ts)]
theorem kA:∀ {l:List (List UInt8 × T)},dI l=l.map fun e=>vT e.2
 | []=>rfl
 | t::ts=>by simp[dI,kA (l:=ts)]
mutual
@[simp] theorem bQ:∀ {t:T},(lvT t).plain=true
 | .null=>rfl
 | .unknown=>rfl
 | .bool _=>rfl
 | .int _=>rfl
 | .point _ _=>rfl
 | .text _=>rfl
 | .list l=>by simp only[lvT,LV.plain];exact eI
 | .map es=>by
  simp only[lvT,LV.plain,aF]
  exact ⟨bP fun _ _=>rfl,jJ⟩
@[simp] theorem eI:∀ {l:List T},LV.ar (cn l)=true
 | []=>rfl
 | t::ts=>by simp only[cn,LV.ar,aF];exact ⟨bQ,eI⟩
@[simp] theorem jJ:∀ {l:List (List UInt8 × T)},LV.ar (dI l)=true
 | []=>rfl
 | t::ts=>by simp only[dI,LV.ar,LV.plain,aF,Bool.and_true];exact ⟨bQ,jJ⟩
end
theorem fj:∀ {t:T},(lvT t).one=true:=fun {t}=>by cases t<;>rfl
theorem bW {t:T}:(vT t).plain=true:=by simp only[LV.plain,LV.ar,bQ,Bool.and_true]
theorem lB {t:T}:LV.ar [vT t]=true:=by simp only[LV.ar,bW,Bool.and_true]
theorem qo (t:T):Pu Tryz.prog 46 [vT t] (i64 t.kind):=
 Pu.of (c46 _ (by cases t<;>exact (rfl:_=_))) lB rfl
theorem xB:Pu Tryz.prog 66 [] (vT .null):=Pu.of (c66 (by exact ⟨_,rfl,_,_,rfl,rfl,rfl⟩)) rfl rfl
theorem call157:b5 Tryz.prog 157:=⟨Tryz.f157,ay Tryz.f157,Tryz.func157,by kernel_rfl,by kernel_rfl⟩
theorem call159:b5 Tryz.prog 159:=⟨Tryz.f159,ay Tryz.f159,Tryz.func159,by kernel_rfl,by kernel_rfl⟩
theorem eo {n b:Nat} (hn:n≤2 ^ 31) (hb:b≤256):dn n b=true:=by
 have:n*b≤2 ^ 31*256:=Nat.mul_le_mul hn hb
 simp only[dn,aF,decide_eq_true_eq]
 omega
theorem xC {cs:List LV} {n:Nat} (hl:cs.length=n) (hb:n≤big) (hp:LV.ar cs=true):Pu Tryz.prog 157 [.isl cs n none] (.isl cs n none):=by
 refine Pu.of ?_ (by simp only[LV.ar,LV.plain,hp,Bool.and_true]) (by simp only[LV.plain,hp])
 rcases Nat.eq_zero_or_pos n with h0|h0
 ·subst h0
  have hc:cs=[]:=List.eq_nil_of_length_eq_zero hl
  subst hc
  refine ak.Aw call157 (c157 _ ?_) (c157 _ ?_)
  ·exact .inr (.inr ⟨.inr rfl,rfl,rfl⟩)
  ·exact .inl ⟨0,0,.ex 0,.rw,[],rfl,rfl,rfl,Nat.le_refl _,rfl⟩
 ·apply c157
  show bd (eqB .eql (qK (.isl cs n none) .nils)) _
  rw[nP h0]
  show bd2 (a6 ([]++[.cells .rw []]) 1 16 Md.rw (.sl 0 0 0 (.ex 0)) (.isl cs n none)) _
  exact rR h0 (by omega) (eo (by unfold big at hb;omega) (by omega)) rfl hp fun r s h=>h
theorem xD {cs:List LV} {n:Nat} (hl:cs.length=n) (hb:n≤big) (hp:LV.ar cs=true):Pu Tryz.prog 159 [.isl cs n none] (.isl cs n none):=by
 refine Pu.of ?_ (by simp only[LV.ar,LV.plain,hp,Bool.and_true]) (by simp only[LV.plain,hp])
 rcases Nat.eq_zero_or_pos n with h0|h0
 ·subst h0
  have hc:cs=[]:=List.eq_nil_of_length_eq_zero hl
  subst hc
  refine ak.Aw call159 (c159 _ ?_) (c159 _ ?_)
  ·exact .inr (.inr ⟨.inr rfl,rfl,rfl⟩)
  ·exact .inl ⟨0,0,.ex 0,.rw,[],rfl,rfl,rfl,Nat.le_refl _,rfl⟩
 ·apply c159
  show bd (eqB .eql (qK (.isl cs n none) .nils)) _
  rw[nP h0]
  show bd2 (a6 ([]++[.cells .rw []]) 1 16 Md.rw (.sl 0 0 0 (.ex 0)) (.isl cs n none)) _
  exact rR h0 (by omega) (eo (by unfold big at hb;omega) (by omega)) rfl hp fun r s h=>h
theorem iH:∀ {ss seen:List (List UInt8)},ss.Nodup→(∀ s ∈ ss,s ∉ seen)→cA (ss.map .str) seen=some ss
 | [],_,_,_=>rfl
 | s::ss,seen,hn,hd=>by
  simp only[List.nodup_cons] at hn
  simp only[List.map_cons,cA]
  rw[if_neg (hd s (by simp)),iH hn.2 fun x hx=>by
   simp only[List.mem_cons,not_or]
   exact ⟨fun e=>hn.1 (e ▸ hx),hd x (by simp[hx])⟩]
  rfl
theorem yX {es:List (List UInt8 × T)} {k:List UInt8}:cY (.str k) ((es.map fun e=>LV.str e.1).zip (dI es))=some ((T.find es k).map vT):=by
 induction es with
 | nil=>rfl
 | cons e es ih=>
  simp only[List.map_cons,dI,List.zip_cons_cons,cY,fJ]
  by_cases h:k=e.1
  ·subst h;simp[T.find]
  ·have h1:(k==e.1)=false:=by simpa using h
   have h2:(e.1==k)=false:=by simpa using Ne.symm h
   simp only[h1,ih,T.find,List.find?_cons,h2]
theorem kB {es:List (List UInt8 × T)}:(dI es).length=es.length:=by rw[kA];simp
theorem qp {st:aa} {es:List (List UInt8 × T)} {k:List UInt8} {ok:Bool} (hn:(es.map (·.1)).Nodup) :
  jb st true (some (.agg [.nili])) (.imap (es.map fun e=>.str e.1) (dI es)) (.str k) ok =
   some (if ok then .tup [vT ((T.find es k).getD .null),.bool (T.find es k).isSome] else vT ((T.find es k).getD .null)):=by
 have hk:(cA (es.map fun e=>LV.str e.1) []).isSome=true:=by
  have:=iH (ss:=es.map (·.1)) (seen:=[]) hn (by simp)
  rw[List.map_map] at this
  simp only[Function.comp_def] at this
  rw[this];rfl
 show ue _ _ _ _ _ _=_
 unfold ue
 rw[if_pos ⟨rfl,rfl,hk,by simp[kB]⟩,yX]
 cases hf:T.find es k<;>cases ok<;>rfl
theorem yY {l:List T} (h:l.length≤big):Pu Tryz.prog 94 [.isl (cn l) l.length none] (vT (.list l)):=by
 have hl:(cn l).length=l.length:=by rw[kz];simp
 refine Pu.of (c94 _ ?_) (by simp[LV.ar,LV.plain]) bW
 refine (xC hl h eI).call ?_
 exact bO (v:=vT (.list l)) _ bW
abbrev vL (l:List T):LV:=.isl (cn l) l.length none
theorem er {l:List T}:(cn l).length=l.length:=by rw[kz];simp
theorem sd {l:List T} {i:Nat}:(cn l)[i]?=(l[i]?).map lvT:=by rw[kz];simp
theorem oa {a b:List T}:cn (a++b)=cn a++cn b:=by simp[kz]
abbrev sL (l:List (List UInt8)):LV:=.isl (l.map .str) l.length none
theorem bR {i:Nat} (h:i<2 ^ 40):IntKind.i64.wrap ((i:Int)+1)=((i+1:Nat):Int):=by
 rw[wrap_i64 (by omega) (by omega)];simp
theorem tQ {es:List (List UInt8 × T)} (hn:(es.map (·.1)).Nodup) (hb:es.length≤big) {R:LV→aa→Prop} (hR:∀ r s,dp s (vL (es.map (·.2))) r→R r s) :
  ∀ (d i:Nat) (f:Option Nat) (st:aa),i+d=es.length→bS .rw st f 1 i (cn ((es.map (·.2)).take i))→
   nQ (osl f 1 i) (.imap (es.map fun e=>.str e.1) (dI es)) (sL (es.map (·.1))) (i64 es.length) (i64 i) R st:=by
 intro d
 induction d with
 | zero=>
  intro i f st hi ho
  apply tD
  have:¬ ((i:Int)<es.length):=by omega
  simp only[qe,aq,aY,ad,bD]
  refine ⟨fun h=>absurd h this,fun _=>hR _ _ ?_⟩
  have hi':i=es.length:=by omega
  subst hi'
  rw[List.take_of_length_le (by simp)] at ho
  have:=iB ho rfl (bx st eI)
  show dp st (.isl _ (es.map (·.2)).length none) _
  rw[cb];exact this
 | succ d ih=>
  intro i f st hi ho
  apply tD
  have hlt:i<es.length:=by omega
  obtain ⟨⟨k,t⟩,hk⟩:∃ e,es[i]=e:=⟨_,rfl⟩
  have hget:es[i]?=some (k,t):=by rw[ba hlt,hk]
  have hks:((es.map (·.1)).map LV.str)[i*1]?=some (.str k):=by simp[hget]
  have hlt':i<(es.map (·.1)).length:=by simpa using hlt
  have hfind:T.find es k=some t:=T.mg hn (cd hget)
  have e1:bF 1 (sL (es.map (·.1))) (i64 i)=some (.iptr ((es.map (·.1)).map .str) (i*1)):=dj hlt'
  simp only[qe,aq,aY,ad,bD,e1,fD,hks,qp hn,hfind,Option.getD_some,Bool.false_eq_true,if_false]
  refine ⟨fun _=>?_,fun h=>absurd (by omega:(i:Int)<es.length) h⟩
  have e2:aV (fun i=>some (i*1,1)) (List.replicate 1 [LV.nili]).flatten [(0,vT t)]=some [lvT t]:=rfl
  rw[e2]
  simp only[eD,aj]
  have ho1:=ho.fr (st':=st++[.cells .rw [lvT t]]) (S:=fun _=>False) Fr.app (fun _ _ h=>h)
  obtain ⟨st2,f2,h1,h2,-⟩:=ho1.append (x:=.sl st.length 0 1 (.ex 1)) (k:=1) (new:=[lvT t]) (bytes:=16) (by simp[fT]) (by omega) rfl (by simp[fj]) (eo (by unfold big at hb;omega) (by omega))
  rw[h1]
  simp only[aj,bI,ad,bR (show i<2 ^ 40 by unfold big at hb;omega)]
  refine ih (i+1) f2 st2 (by omega) ?_
  have e3:(es.map (·.2)).take (i+1)=(es.map (·.2)).take i++[t]:=by
   rw[List.take_add_one];simp[hget]
  rw[e3,oa]
  exact h2
theorem wc {es:List (List UInt8 × T)} (hn:(es.map (·.1)).Nodup) (hb:es.length≤big) (hk:Pu Tryz.prog 49 [vT (.map es)] (sL (es.map (·.1)))):Pu Tryz.prog 101 [vT (.map es)] (vL (es.map (·.2))):=by
 refine Pu.of (AN _ ?_) (by simp[LV.ar,LV.plain]) (by simp[LV.plain])
 show ak Tryz.prog 49 [vT (.map es)] _ _
 refine hk.call ?_
 show nQ (osl none 1 0) (.imap (es.map fun e=>.str e.1) (dI es)) (sL (es.map (·.1))) (i64 (es.map (·.1)).length) (i64 0) _ _
 rw[cb]
 exact tQ hn hb (fun r s h=>h) es.length 0 none _ (by omega) bS.nil
theorem tR {l:List T} (hb:l.length≤big):Pu Tryz.prog 101 [vT (.list l)] (vL l):=by
 refine Pu.of (AN _ ?_) (by simp[LV.ar,LV.plain]) (by simp[LV.plain])
 show ak Tryz.prog 159 [vL l] _ _
 exact (xD er hb eI).call (bO (v:=vL l) _ (by simp[LV.plain]))
end Go.Proofs.YtknegckgmklnhaaGreatDoor
