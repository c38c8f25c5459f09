/- Parts of the proof. -/
import Derived.Test.YtknegckgmklnhaaGreatDoorCp48
import Derived.Test.YtknegckgmklnhaaGreatDoorVaC3
namespace Go.Proofs.YtknegckgmklnhaaGreatDoor
open Go Go.CP
theorem pz (gl:List Nat) (rc:List (Nat × List Nat)) {dk:Bool} {rs:List ResultVar} {R:LV.RT} {k:List Item} {ds:List cV} {t:List LV} {st:aa} {W:Prop} (h:W) (e:eB Tryz.prog dk rs R gl [] rc 3000 (cF k) ds t st=W:=by kernel_rfl):LTg Tryz.prog (kindOf dk) rs k ds R t st:=LTg.atE aq e h
theorem cz (gl:List Nat) (rc:List (Nat × List Nat)) (rs:List ResultVar) {f:FuncId} {fn:Func} {xs:List LV} {st:aa} {R:LV.RT} {W:Prop} (hf:Tryz.prog.funcs[f]?=some fn) (h:W) (hb:fn.body=some (aM fn):=by kernel_rfl) (hn:(fn.name == "runtime.NumGoroutine")=false:=by kernel_rfl) (hrs:fn.results.toList=rs:=by kernel_rfl) (e:eB Tryz.prog false rs R gl [] rc 3000 [.code (aM fn)] [] (xs++List.replicate (fn.ntmps-xs.length) ak) st=W:=by kernel_rfl):ag Tryz.prog f xs st R:=ag.ofE aq hf hb hn hrs e h
set_option maxRecDepth 100000
def w68 (a0 a1 a2:LV) (R:LV.RT) (st:aa):Prop:=
 bd2 (cn st a0) fun v0 gT=>bd2 (cn gT a1) fun v2 iD=>nw iD [LV.nili] fun v4 gE=>bd (ldA gE v0 1) fun v6=>bd (ldA gE v2 1) fun v7=>LZ 131 [v6,v7,a2] gE fun v8 iF=>bd (af v8 0) fun iN=>bd (af v8 1) fun iS=>bd2 (lmk (stV iF 1 v4 iN)) fun _ eQ=>bd (ldA eQ v4 1) fun mK=>R (LV.tup [mK,iS]) eQ
theorem c68 (a0 a1 a2:LV) {R:LV.RT} {st:aa} (h:w68 a0 a1 a2 R st):LZ 68 [a0,a1,a2] st R:=
 cz [] [] [.cell 6 57,.tmp 7] Tryz.func68 h
def B9 (a0 a1 a2:LV) (R:LV.RT) (st:aa):Prop:=
 bd2 (cn st a0) fun v0 iS=>bd2 (cn iS a1) fun v2 mK=>nw mK [LV.nili] fun v4 nE=>nw nE [i64 0] fun v6 gE=>bd (ldA gE v0 1) fun v8=>bd (ldA gE v2 1) fun v9=>LZ 181 [v8,v9,a2] gE fun iN gT=>bd (af iN 0) fun oF=>bd (af iN 1) fun oR=>bd2 (lmk (stV gT 1 v4 oF)) fun _ iD=>bd2 (lmk (stV iD 1 v6 oR)) fun _ iF=>cQ Tryz.prog 179 [v6] iF fun eQ=>bd (ldA eQ v4 1) fun rW=>bd (ld1 eQ v6) fun aC=>R (LV.tup [rW,aC]) eQ
theorem c131 (a0 a1 a2:LV) {R:LV.RT} {st:aa} (h:B9 a0 a1 a2 R st):LZ 131 [a0,a1,a2] st R:=
 cz [] [] [.cell 6 57,.cell 7 33] Tryz.func131 h
def qb (x2 x3 x4 x6 x8 x9:LV) (R:LV.RT) (st:aa):Prop:=LTg Tryz.prog (kindOf false) [.cell 6 57,.tmp 7] (cw Tryz.f181 3) [] R (.aJ::.aJ::x2::x3::x4::.aJ::x6::.aJ::x8::x9::(LV.jk 49 [])) st
def nQ (x2 x3 x4 x6 x8 x9 x38:LV) (R:LV.RT) (st:aa):Prop:=LTg Tryz.prog (kindOf false) [.cell 6 57,.tmp 7] (cw Tryz.f181 4) [] R (.aJ::.aJ::x2::x3::x4::.aJ::x6::.aJ::x8::x9::(LV.jk 28 (x38::(LV.jk 20 [])))) st
def qc (x2 x3 x6 x9 x10:LV) (R:LV.RT) (st:aa):Prop:=LTg Tryz.prog (kindOf false) [.cell 6 57,.tmp 7] (cw Tryz.f181 6) [] R (.aJ::.aJ::x2::x3::.aJ::.aJ::x6::.aJ::.aJ::x9::x10::(LV.jk 48 [])) st
def xy (x6 x7:LV) (R:LV.RT) (st:aa):Prop:=LTg Tryz.prog (kindOf false) [.cell 6 57,.tmp 7] (cw Tryz.f181 9) [] R (LV.jk 6 (x6::x7::(LV.jk 51 []))) st
def rY:List (Nat × List Nat):=[(3,(LV.gx 0 59 [2,3,4,6,8,9])),(4,(LV.gx 0 59 [2,3,4,6,8,9,38])),(6,(LV.gx 0 59 [2,3,6,9,10])),(9,(LV.gx 0 59 [6,7]))]
def AV (a0 a1 a2:LV) (R:LV.RT) (st:aa):Prop:=
 bd2 (cn st a0) fun v0 bY=>bd2 (cn bY a1) fun v2 c7=>nw c7 [LV.nili] fun v4 gT=>bd (bj a2) fun v6=>bd (aI BinOp.eql v6 (i64 0)) fun v7=>aG v7 (bd (ldA gT v2 1) fun v8=>bd2 (lmk (stV gT 1 v4 v8)) fun _ iD=>bd (ldA iD v4 1) fun c8=>R (LV.tup [c8,i64 0]) iD)
 (bd (ldA gT v0 1) fun iF=>bd (bo 2 a2 (i64 0)) fun iS=>bd (ldA gT iS 2) fun iN=>(nw gT [LV.nili] fun rW eQ=>ldA eQ iS 2=some iN∧
 ldA eQ v0 1=some iF∧
 LZ 180 [iF,iN] eQ fun aC mK=>bd (af aC 0) fun dO=>bd (af aC 1) fun lE=>bd2 (lmk (stV mK 1 rW dO)) fun _ nE=>qb a2 v0 v2 v4 rW lE R nE)∧
 LZ 180 [iF,iN] gT fun aS oF=>bd (af aS 0) fun lT=>bd (af aS 1) fun p7=>nw oF [LV.nili] fun aT gE=>ldA gE iS 2=some iN∧ldA gE v0 1=some iF∧bd2 (lmk (stV gE 1 aT lT)) fun _ oR=>qb a2 v0 v2 v4 aT p7 R oR)
theorem Ca (a0 a1 a2:LV) {R:LV.RT} {st:aa} (h:AV a0 a1 a2 R st):LZ 181 [a0,a1,a2] st R:=
 cz [] rY [.cell 6 57,.tmp 7] Tryz.func181 h
def tu (x2 x3 x4 x6 x8 x9:LV) (R:LV.RT) (st:aa):Prop:=
 bd (aI BinOp.neq x9 (i64 0)) fun v0=>aG v0
 (bd (bj x2) fun v1=>bd (aI BinOp.gtr v1 (i64 1)) fun v2=>aG v2 (nQ x2 x3 x4 x6 x8 x9 (LV.bool true) R st)
 (bd (ldA st x3 1) fun v3=>bd (bo 2 x2 (i64 0)) fun v4=>bd (ldA st v4 2) fun v5=>LZ 217 [v3,v5,x9] st fun v6 eQ=>bd (lun UnOp.not v6) fun v8=>nQ x2 x3 x4 x6 x8 x9 v8 R eQ))
 (nQ x2 x3 x4 x6 x8 x9 (LV.bool false) R st)
theorem AW (x2 x3 x4 x6 x8 x9:LV) {R:LV.RT} {st:aa} (h:tu x2 x3 x4 x6 x8 x9 R st):qb x2 x3 x4 x6 x8 x9 R st:=
 pz [] rY h
def xz (x2 x3 x4 x6 x8 x9 x38:LV) (R:LV.RT) (st:aa):Prop:=
 aG x38 (bd (bK (aN (aR [(0,1)]) [LV.nili] [])) fun v0=>bd2 (lmk (stV st 1 x6 v0)) fun _ iS=>bd (ldA iS x6 1) fun v3=>R (LV.tup [v3,x9]) iS)
 (bd (ldA st x8 1) fun v4=>bd (ldA st x4 1) fun v5=>bd (ob3 (some (i64 1)) none none fun l h m=>cp st 2 x2 l h m) fun v6=>(nw st [LV.nili] fun v7 gE=>(ob3 (some (i64 1)) none none fun l h m=>cp gE 2 x2 l h m)=some v6∧
 ldA gE x4 1=some v5∧
 ldA gE x8 1=some v4∧
 LZ 181 [v4,v5,v6] gE fun v9 gT=>bd (af v9 0) fun oF=>bd (af v9 1) fun oR=>bd2 (lmk (stV gT 1 v7 oF)) fun _ iD=>qc x2 x3 x6 oR v7 R iD)∧
 LZ 181 [v4,v5,v6] st fun mK iF=>bd (af mK 0) fun rW=>bd (af mK 1) fun aC=>nw iF [LV.nili] fun nE eQ=>(ob3 (some (i64 1)) none none fun l h m=>cp eQ 2 x2 l h m)=some v6∧
 ldA eQ x4 1=some v5∧ldA eQ x8 1=some v4∧bd2 (lmk (stV eQ 1 nE rW)) fun _ iN=>qc x2 x3 x6 aC nE R iN)
theorem AX (x2 x3 x4 x6 x8 x9 x38:LV) {R:LV.RT} {st:aa} (h:xz x2 x3 x4 x6 x8 x9 x38 R st):nQ x2 x3 x4 x6 x8 x9 x38 R st:=
 pz [] rY h
def xA (x2 x3 x6 x9 x10:LV) (R:LV.RT) (st:aa):Prop:=
 bd (aI BinOp.neq x9 (i64 0)) fun v0=>aG v0 (bd (bK (aN (aR [(0,1)]) [LV.nili] [])) fun v1=>bd2 (lmk (stV st 1 x6 v1)) fun _ gT=>bd (ldA gT x6 1) fun v4=>R (LV.tup [v4,x9]) gT)
 (bd (ldA st x3 1) fun v5=>bd (ldA st x10 1) fun v6=>bd (bo 2 x2 (i64 0)) fun v7=>bd (ldA st v7 2) fun v8=>LZ 218 [v5,v6,v8] st fun v9 eQ=>bd2 (lmk (stV eQ 1 x6 v9)) fun _ gE=>xy x6 (i64 0) R gE)
theorem AY (x2 x3 x6 x9 x10:LV) {R:LV.RT} {st:aa} (h:xA x2 x3 x6 x9 x10 R st):qc x2 x3 x6 x9 x10 R st:=
 pz [] rY h
def xB (x6 x7:LV) (R:LV.RT) (st:aa):Prop:=
 bd (ldA st x6 1) fun v0=>R (LV.tup [v0,x7]) st
theorem AZ (x6 x7:LV) {R:LV.RT} {st:aa} (h:xB x6 x7 R st):xy x6 x7 R st:=
 pz [] rY h
def tw (x4 x7 x8:LV) (R:LV.RT) (st:aa):Prop:=LTg Tryz.prog (kindOf false) [.cell 4 57,.tmp 5] (cw Tryz.f180 6) [] R (LV.jk 4 (x4::.aJ::.aJ::x7::x8::(LV.jk 35 []))) st
def zA:List (Nat × List Nat):=[(6,(LV.gx 0 44 [4,7,8]))]
def Cb (a0 a1:LV) (R:LV.RT) (st:aa):Prop:=
 bd2 (cn st a0) fun v0 p8=>bd2 (cn p8 a1) fun v2 p9=>nw p9 [LV.nili] fun v4 eQ=>bd (al 1 v2) fun v6=>bd (ld1 eQ v6) fun v7=>bd (aI BinOp.geq v7 (i64 0)) fun v8=>aG v8
 (bd (al 0 v2) fun v9=>bd (ld1 eQ v9) fun tO=>bd (mj BinOp.eql tO (LV.str [])) fun v11=>aG v11
 (bd (al 0 v0) fun v12=>bd (ld1 eQ v12) fun v13=>bd (asC 171 (some LV.nils) v13 false) fun rW=>bd (al 1 v2) fun v15=>bd (ld1 eQ v15) fun v16=>bd (bj rW) fun v17=>bd (aI BinOp.geq v16 v17) fun v18=>aG v18
 (bd (bK (aN (aR [(0,1)]) [LV.nili] [])) fun v19=>bd2 (lmk (stV eQ 1 v4 v19)) fun _v20 iD=>bd (ldA iD v4 1) fun v22=>R (LV.tup [v22,i64 2]) iD)
 (bd (al 1 v2) fun v23=>bd (ld1 eQ v23) fun v24=>bd (bo 1 rW v24) fun v25=>bd (ldA eQ v25 1) fun v26=>bd2 (lmk (stV eQ 1 v4 v26)) fun _v27 iF=>bd (ldA iF v4 1) fun v29=>R (LV.tup [v29,i64 0]) iF))
 (bd (al 0 v0) fun aC=>bd (ld1 eQ aC) fun aS=>bd (asC 173 (some LV.nilm) aS false) fun aT=>bd (al 0 v2) fun bY=>bd (ld1 eQ bY) fun iN=>bd (kH eQ true (some (LV.agg [LV.nili])) aT iN true) fun iS=>bd (af iS 0) fun v36=>bd (af iS 1) fun v37=>nw eQ [LV.nili] fun c7 gE=>kH gE true (some (LV.agg [LV.nili])) aT iN true=some iS∧
 ld1 gE bY=some iN∧ld1 gE aC=some aS∧bd2 (lmk (stV gE 1 c7 v36)) fun _v40 mK=>tw v4 c7 v37 R mK))
 (bd (al 0 v0) fun c8=>bd (ld1 eQ c8) fun dO=>bd (asC 173 (some LV.nilm) dO false) fun lE=>bd (al 0 v2) fun lT=>bd (ld1 eQ lT) fun nE=>bd (kH eQ true (some (LV.agg [LV.nili])) lE nE true) fun oF=>bd (af oF 0) fun v48=>bd (af oF 1) fun v49=>nw eQ [LV.nili] fun p7 gT=>kH gT true (some (LV.agg [LV.nili])) lE nE true=some oF∧
 ld1 gT lT=some nE∧ld1 gT c8=some dO∧bd2 (lmk (stV gT 1 p7 v48)) fun _v52 oR=>tw v4 p7 v49 R oR)
theorem CV (a0 a1:LV) {R:LV.RT} {st:aa} (h:Cb a0 a1 R st):LZ 180 [a0,a1] st R:=
 cz [] zA [.cell 4 57,.tmp 5] Tryz.func180 h
def tz (x4 x7 x8:LV) (R:LV.RT) (st:aa):Prop:=
 bd (lun UnOp.not x8) fun v0=>aG v0 (bd (bK (aN (aR [(0,1)]) [LV.nili] [])) fun v1=>bd2 (lmk (stV st 1 x4 v1)) fun _ eQ=>bd (ldA eQ x4 1) fun v4=>R (LV.tup [v4,i64 8]) eQ)
 (bd (ldA st x7 1) fun v5=>bd2 (lmk (stV st 1 x4 v5)) fun _ gE=>bd (ldA gE x4 1) fun v8=>R (LV.tup [v8,i64 0]) gE)
theorem A0 (x4 x7 x8:LV) {R:LV.RT} {st:aa} (h:tz x4 x7 x8 R st):tw x4 x7 x8 R st:=
 pz [] zA h
def Cc (a0 a1 a2:LV) (R:LV.RT) (st:aa):Prop:=
 bd2 (cn st a0) fun v0 c7=>bd2 (cn c7 a1) fun v2 c8=>bd2 (cn c8 a2) fun v4 dO=>nw dO [LV.nili] fun v6 gE=>bd (al 1 v4) fun v8=>bd (ld1 gE v8) fun v9=>bd (aI BinOp.geq v9 (i64 0)) fun lE=>aG lE
 (bd (al 0 v4) fun lT=>bd (ld1 gE lT) fun p7=>bd (mj BinOp.eql p7 (LV.str [])) fun p8=>aG p8
 (bd (al 0 v0) fun p9=>bd (ld1 gE p9) fun tO=>bd (asC 171 (some LV.nils) tO false) fun v16=>LZ 159 [v16] gE fun nE eQ=>bd (al 1 v4) fun v19=>bd (ld1 eQ v19) fun v20=>bd (bj nE) fun v21=>bd (aI BinOp.eql v20 v21) fun v22=>aG v22
 (bd (ldA eQ v2 1) fun v23=>bd2 (cK eQ 1 (aN (fun i=>some (i*1,1)) (List.replicate 1 [LV.nili]).flatten [(0,v23)])) fun v24 oF=>bd2 (aY oF 1 16 Md.rw nE v24) fun v26 oR=>bd (bK (aN (aR [(0,1)]) [LV.nili] [(0,LV.iface 171 v26)])) fun v28=>bd2 (lmk (stV oR 1 v6 v28)) fun _v29 iF=>bd (ldA iF v6 1) fun v31=>R v31 iF)
 (bd (al 1 v4) fun v32=>bd (ld1 eQ v32) fun v33=>bd (ldA eQ v2 1) fun v34=>bd (bo 1 nE v33) fun v35=>bd2 (lmk (stV eQ 1 v35 v34)) fun _v36 rW=>bd (bK (aN (aR [(0,1)]) [LV.nili] [(0,LV.iface 171 nE)])) fun v38=>bd2 (lmk (stV rW 1 v6 v38)) fun _v39 iN=>bd (ldA iN v6 1) fun v41=>R v41 iN))
 (bd (al 0 v0) fun v42=>bd (ld1 gE v42) fun v43=>bd (asC 173 (some LV.nilm) v43 false) fun v44=>LZ 259 [v44] gE fun aT gT=>bd (al 0 v4) fun v47=>bd (ld1 gT v47) fun v48=>bd (ldA gT v2 1) fun v49=>bd2 (lmk (pg gT true aT v48 v49)) fun _v50 aC=>bd (bK (aN (aR [(0,1)]) [LV.nili] [(0,LV.iface 173 aT)])) fun v52=>bd2 (lmk (stV aC 1 v6 v52)) fun _v53 iS=>bd (ldA iS v6 1) fun v55=>R v55 iS))
 (bd (al 0 v0) fun v56=>bd (ld1 gE v56) fun v57=>bd (asC 173 (some LV.nilm) v57 false) fun v58=>LZ 259 [v58] gE fun bY iD=>bd (al 0 v4) fun v61=>bd (ld1 iD v61) fun v62=>bd (ldA iD v2 1) fun v63=>bd2 (lmk (pg iD true bY v62 v63)) fun _v64 aS=>bd (bK (aN (aR [(0,1)]) [LV.nili] [(0,LV.iface 173 bY)])) fun v66=>bd2 (lmk (stV aS 1 v6 v66)) fun _v67 mK=>bd (ldA mK v6 1) fun v69=>R v69 mK)
theorem c218 (a0 a1 a2:LV) {R:LV.RT} {st:aa} (h:Cc a0 a1 a2 R st):LZ 218 [a0,a1,a2] st R:=
 cz [] [] [.cell 6 57] Tryz.func218 h
def Cd (a0 a1 a2:LV) (R:LV.RT) (st:aa):Prop:=
 bd2 (cn st a0) fun v0 gE=>bd2 (cn gE a1) fun v2 eQ=>bd (aI BinOp.eql a2 (i64 8)) fun v4=>aG v4 (R (LV.bool true) eQ)
 (bd (al 0 v0) fun v5=>bd (ld1 eQ v5) fun v6=>bd (asC 171 (some LV.nils) v6 true) fun v7=>bd (af v7 0) fun v8=>bd (af v7 1) fun _=>bd (aI BinOp.eql a2 (i64 2)) fun gT=>aG gT (bd (al 1 v2) fun iD=>bd (ld1 eQ iD) fun iF=>bd (bj v8) fun iN=>bd (aI BinOp.eql iF iN) fun iS=>R iS eQ) (R (LV.bool false) eQ))
theorem CW (a0 a1 a2:LV) {R:LV.RT} {st:aa} (h:Cd a0 a1 a2 R st):LZ 217 [a0,a1,a2] st R:=
 cz [] [] [.tmp 6] Tryz.func217 h
def Ce (a0:LV) (R:LV.RT) (st:aa):Prop:=
 bd (eqB BinOp.eql (tV a0 LV.nilm)) fun v0=>aG v0 (R LV.nilm st) (LZ 288 [LV.iface 173 a0] st fun v1 eQ=>bd (asC 173 (some LV.nilm) v1 false) fun v3=>R v3 eQ)
theorem CX (a0:LV) {R:LV.RT} {st:aa} (h:Ce a0 R st):LZ 259 [a0] st R:=
 cz [] [] [.tmp 2] Tryz.func259 h
end Go.Proofs.YtknegckgmklnhaaGreatDoor
namespace Go.Proofs.YtknegckgmklnhaaGreatDoor
open Go Go.CP
set_option maxRecDepth 100000
def Cf (a0:LV) (R:LV.RT) (st:aa):Prop:=
 bd (eqB BinOp.neq (nV true (fm Tryz.prog) LV.nili LV.nili)) fun v0=>aG v0 (bd (dS a0) fun v1=>bd2 (lmk (stV st 1 v1 (i64 6))) fun _ eQ=>R (LV.tup []) eQ) (R (LV.tup []) st)
theorem CY (a0:LV) {K:aa→Prop} {st:aa} (h:Cf a0 (fun _ s=>K s) st):cQ Tryz.prog 179 [a0] st K:=
 cQ.ofE (gl:=[]) (cuts:=[]) (rc:=[]) (n:=3000) aq Tryz.func179 (show Tryz.f179.body=some (aM Tryz.f179) by kernel_rfl) (show Tryz.f179.results.toList=[] by kernel_rfl) (by kernel_rfl) h
end Go.Proofs.YtknegckgmklnhaaGreatDoor
namespace Go.CP
theorem xC {neg:Bool} {n:Nat}:Ieee.Toward.even.cut neg n 0=n:=by
 simp only[Ieee.Toward.cut,Nat.zero_min,Nat.shiftLeft_zero,Nat.div_one,Nat.mod_one]
 simp
theorem xD {neg:Bool} {rung:Nat} (h1:2 ^ 52≤rung) (h2:rung<2047*2 ^ 52):Ieee.double.read (Ieee.double.word neg rung)=.number neg (2 ^ 52+rung % 2 ^ 52) (-1074+((rung / 2 ^ 52-1:Nat):Int)):=by
 have e1:Ieee.double.signWeight=2 ^ 63:=rfl
 have e2:Ieee.double.binade=2 ^ 52:=rfl
 have e3:Ieee.double.infRung=2047*2 ^ 52:=rfl
 have e4:Ieee.double.leastPlace = -1074:=rfl
 have hr:Ieee.double.word neg rung % 2 ^ 63=rung:=by
  cases neg
  ·show rung % 2 ^ 63=rung;omega
  ·show (Ieee.double.signWeight+rung) % 2 ^ 63=rung;rw[e1];omega
 have hs:(Ieee.double.word neg rung / 2 ^ 63 % 2==1)=neg:=by
  cases neg
  ·show (rung / 2 ^ 63 % 2==1)=false
   have:rung / 2 ^ 63=0:=by omega
   rw[this];rfl
  ·show ((Ieee.double.signWeight+rung) / 2 ^ 63 % 2==1)=true
   have:(Ieee.double.signWeight+rung) / 2 ^ 63=1:=by rw[e1];omega
   rw[this];rfl
 unfold Ieee.Format.read
 simp only[e1,e2,e3,e4,hr,hs]
 rw[if_neg (by omega),if_pos h2]
theorem A1 {neg:Bool}:Ieee.Toward.even.cut neg (9007199254740992 <<< 0) 1=4503599627370496:=by
 cases neg<;>rfl
theorem oS {x C K N a b c:Nat} (h1:K=N*2 ^ a) (h2:a+b=c) (hC:2 ^ c=C) (hx:2 ^ b=x):K*x=N*C:=by
 subst h1 hC hx
 rw[Nat.mul_assoc,← Nat.pow_add,h2]
theorem kept {neg:Bool} {N L:Nat} (hL1:2 ^ L≤N) (hL2:N<2 ^ (L+1)) (hN:N≤2 ^ 53) (hL53:L≤53) {C D:Nat} (hC:2 ^ 1074=C) (hD:2 ^ (L+1022)=D) :
  ∃ K,Ieee.Toward.even.cut neg (N <<< (0-((L:Int)-52)).toNat) (((L:Int)-52)-0).toNat=K∧2 ^ 52≤K∧K<2 ^ 53∧K*D=N*C:=by
 rcases Nat.lt_or_ge 52 L with k|k
 ·have hL:L=53:=by omega
  subst hL
  have hN53:N=9007199254740992:=by omega
  subst hN53
  refine ⟨4503599627370496,A1,by omega,by omega,?_⟩
  have h1:(9007199254740992:Nat)=4503599627370496*2 ^ 1:=by omega
  exact (oS (K:=9007199254740992) (N:=4503599627370496) (a:=1) (b:=1074) (c:=53+1022) h1 (by omega) hD hC).symm
 ·have e6:(0-((L:Int)-52)).toNat=52-L:=by omega
  have e7:(((L:Int)-52)-0).toNat=0:=by omega
  rw[e6,e7,xC,Nat.shiftLeft_eq]
  have p1:2 ^ L*2 ^ (52-L)=2 ^ 52:=by rw[← Nat.pow_add,show L+(52-L)=52 by omega]
  have p2:2 ^ (L+1)*2 ^ (52-L)=2 ^ 53:=by rw[← Nat.pow_add,show L+1+(52-L)=53 by omega]
  refine ⟨_,rfl,?_,?_,oS rfl (by omega) hC hD⟩
  ·rw[← p1];exact Nat.mul_le_mul_right _ hL1
  ·rw[← p2];exact Nat.mul_lt_mul_of_pos_right hL2 (Nat.pow_pos (by omega))
theorem Cg {L K B:Nat} (hB:B=4503599627370496) (hL:L≤53) (h1:B≤K) (h2:K<2*B):B≤(L+1022)*B+K∧(L+1022)*B+K<2047*B∧B+((L+1022)*B+K) % B=K∧((L+1022)*B+K) / B-1=L+1022:=by
 subst hB
 refine ⟨by omega,by omega,by omega,by omega⟩
theorem vO {neg:Bool} {N L:Nat} (hpos:0<N) (hLL:N.log2=L) (hL53:L≤53) {K:Nat} (hK:Ieee.Toward.even.cut neg (N <<< (0-((L:Int)-52)).toNat) (((L:Int)-52)-0).toNat=K) (hK1:2 ^ 52≤K) (hK2:K<2 ^ 53) :
  Ieee.double.read (Ieee.double.nearest neg N 0)=.number neg K ((L:Int)-52):=by
 have e2:Ieee.double.binade=2 ^ 52:=rfl
 have e3:Ieee.double.infRung=2047*2 ^ 52:=rfl
 have e4:Ieee.double.leastPlace = -1074:=rfl
 have e5:((Ieee.double.fractionBits:Nat):Int)=52:=rfl
 have hlast:max ((0:Int)+(L:Nat)-52) (-1074)=(L:Int)-52:=by omega
 unfold Ieee.Format.nearest
 rw[if_neg (by omega)]
 simp only[hLL,e2,e3,e4,e5,hlast]
 rw[hK]
 have e8:((L:Int)-52 - -1074).toNat=L+1022:=by omega
 rw[e8]
 obtain ⟨r1,r2,r3,r4⟩:=Cg (L:=L) (K:=K) (B:=2 ^ 52) rfl hL53 hK1 hK2
 have hw:=xD (neg:=neg) r1 r2
 rw[r3,r4] at hw
 rw[Nat.min_eq_left (Nat.le_of_lt r2),hw]
 have e12:(-1074+((L+1022:Nat):Int))=(L:Int)-52:=by omega
 rw[e12]
theorem ly {n:Int} (h:n.natAbs≤2 ^ 53) {C:Nat} (hC:2 ^ 1074=C):∃ (m:Nat) (i:Int),Ieee.double.read (FloatKind.f64.nearest n)=.number (decide (n<0)) m i∧-1074≤i∧m*2 ^ (i+1074).toNat=n.natAbs*C:=by
 show ∃ (m:Nat) (i:Int),Ieee.double.read (Ieee.double.nearest (decide (n<0)) n.natAbs 0)=_∧_
 generalize hneg:decide (n<0)=neg
 generalize hN:n.natAbs=N at h
 rcases Nat.eq_zero_or_pos N with h0|hpos
 ·subst h0
  have hn:neg=false:=by rw[← hneg];exact decide_eq_false (by omega)
  subst hn
  exact ⟨0,-1074,rfl,by omega,by simp⟩
 have hL1:2 ^ N.log2≤N:=Nat.log2_self_le (by omega)
 have hL2:N<2 ^ (N.log2+1):=Nat.lt_log2_self
 generalize hLL:N.log2=L at hL1 hL2
 have hL53:L≤53:=by
  rcases Nat.lt_or_ge 53 L with k|k
  ·have:2 ^ 54≤2 ^ L:=Nat.pow_le_pow_right (by omega) k
   omega
  ·exact k
 obtain ⟨K,hK,hK1,hK2,hKv⟩:=kept (neg:=neg) hL1 hL2 h hL53 hC rfl
 refine ⟨K,(L:Int)-52,vO hpos hLL hL53 hK hK1 hK2,by omega,?_⟩
 have e11:((L:Int)-52+1074).toNat=L+1022:=by omega
 rw[e11];exact hKv
theorem kB {n:Int} {m C:Nat} {i base:Int} (hb : -1074≤base) (hi:base≤i) (h:m*2 ^ (i+1074).toNat=n.natAbs*C) :
  Ieee.signed (decide (n<0)) m (i-base).toNat*((2 ^ (base+1074).toNat:Nat):Int)=n*(C:Int):=by
 have e:m*2 ^ (i-base).toNat*2 ^ (base+1074).toNat=n.natAbs*C:=by
  rw[Nat.mul_assoc,← Nat.pow_add,← h];congr 2;omega
 unfold Ieee.signed
 rw[Nat.shiftLeft_eq]
 by_cases hn:n<0
 ·rw[decide_eq_true hn,if_pos rfl,Int.neg_mul,← Int.natCast_mul,e,Int.natCast_mul]
  have:n = -(n.natAbs:Int):=by omega
  rw[show n*(C:Int) = -((n.natAbs:Int)*C) by rw[← Int.neg_mul,← this]]
 ·rw[decide_eq_false hn,if_neg (by simp),← Int.natCast_mul,e,Int.natCast_mul]
  have:n=(n.natAbs:Int):=by omega
  rw[← this]
theorem uR (n:Nat):∃ C:Nat,2 ^ n=C∧0<C:=⟨_,rfl,Nat.pow_pos (by omega)⟩
theorem kD {a b:Int} (ha:a.natAbs≤2 ^ 53) (hb:b.natAbs≤2 ^ 53):Op.floatEq .f64 (FloatKind.f64.nearest a) (FloatKind.f64.nearest b)=decide (a=b):=by
 obtain ⟨C,hC,hc⟩:=uR 1074
 obtain ⟨m,i,r1,i1,v1⟩:=ly ha hC
 obtain ⟨m',j,r2,j1,v2⟩:=ly hb hC
 clear hC
 show (Ieee.double.order _ _==some .eq)=_
 unfold Ieee.Format.order
 rw[r1,r2]
 simp only[Ieee.Datum.order]
 have s1:=kB (n:=a) (base:=min i j) (by omega) (by omega) v1
 have s2:=kB (n:=b) (base:=min i j) (by omega) (by omega) v2
 have hp:(0:Int)<((2 ^ (min i j+1074).toNat:Nat):Int):=by
  have:0<2 ^ (min i j+1074).toNat:=Nat.pow_pos (by omega)
  omega
 generalize ((2 ^ (min i j+1074).toNat:Nat):Int)=D at s1 s2 hp
 generalize Ieee.signed (decide (a<0)) m (i-min i j).toNat=x at s1
 generalize Ieee.signed (decide (b<0)) m' (j-min i j).toNat=y at s2
 have key:x=y↔a=b:=by
  constructor
  ·intro e
   rw[e,s2] at s1
   exact (Int.eq_of_mul_eq_mul_right (by omega) s1).symm
  ·intro e
   rw[e,← s2] at s1
   exact Int.eq_of_mul_eq_mul_right (by omega) s1
 by_cases hxy:x=y
 ·rw[decide_eq_true (key.1 hxy),hxy,Int.compare_eq_eq.2 rfl];rfl
 ·rw[decide_eq_false fun e=>hxy (key.2 e)]
  have:compare x y≠.eq:=fun e=>hxy (Int.compare_eq_eq.1 e)
  cases hc:compare x y<;>simp_all<;>rfl
end Go.CP
namespace Go.Proofs.YtknegckgmklnhaaGreatDoor
open Go Go.CP Classical
set_option maxRecDepth 100000
theorem nR {α:Type}:∀ {l:List α} {p:α × List α},p ∈ eH l→(p.1::p.2).Perm l
 | [],p,h=>by simp[eH] at h
 | x::xs,p,h=>by
  simp only[eH,List.mem_cons,qk] at h
  rcases h with rfl|⟨q,hq,rfl⟩
  ·exact .refl _
  ·exact (List.Perm.swap x q.1 q.2).trans ((nR hq).cons x)
theorem oT {α β:Type} {f:α→β}:∀ {l:List α},eH (l.map f)=(eH l).map fun p=>(f p.1,p.2.map f)
 | []=>rfl
 | x::xs=>by
  simp only[List.map_cons,eH,oT (l:=xs),List.map_map]
  rfl
theorem Ch {es:List (List UInt8 × T)}:(es.map fun e=>LV.str e.1).zip (dm es)=mE es:=by
 rw[ke]
 induction es with
 | nil=>rfl
 | cons e es ih=>simp only[List.map_cons,List.zip_cons_cons,ih,mE]
def InE (p:T→T→Prop) (es' rest:List (List UInt8 × T)):Prop:=∀ e ∈ rest,∃ y,T.find es' e.1=some y∧p e.2 y
theorem yT {es es':List (List UInt8 × T)} {p:T→T→Prop} (hn:(es'.map (·.1)).Nodup) {g:FuncId} (hg:∀ e ∈ es,∀ y,T.find es' e.1=some y→Pu Tryz.prog g [vT e.2,vT y] (.bool (decide (p e.2 y)))) {R:LV→aa→Prop} :
  ∀ (n:Nat) (rest:List (List UInt8 × T)),rest.length=n→(∀ e ∈ rest,e ∈ es)→∀ (st:aa) (o:Nat) (cur:Option (LV × LV)),st[o]?=some (.fiter cur (mE rest))→(∀ s,R (.bool (decide (InE p es' rest))) s)→
   pM (.imap (es'.map fun e=>.str e.1) (dm es')) (.fn (.func g) [] []) (.ptr o 0) R st:=by
 intro n
 induction n with
 | zero=>
  intro rest hl _ st o cur ho hR
  obtain rfl:=List.eq_nil_of_length_eq_zero hl
  apply wS
  have e:cB st (.ptr o 0)=some [(.tup [.bool false],st)]:=by simp only[cB,ho,mE,List.map_nil]
  have:=hR st
  rw[decide_eq_true (show InE p es' [] from fun e h=>by cases h)] at this
  simp only[pP,gN,e,ae,wg,aV,bB,ax,and_true]
  exact this
 | succ n ih=>
  intro rest hl hsub st o cur ho hR
  apply wS
  obtain ⟨x,xs,rfl⟩:∃ x xs,rest=x::xs:=by
   cases rest with
   | nil=>simp at hl
   | cons x xs=>exact ⟨x,xs,rfl⟩
  have e:cB st (.ptr o 0)=some ((eH (mE (x::xs))).map fun q=>(.tup [.bool true,q.1.1,q.1.2],st.set o (.fiter (some q.1) q.2))):=by
   simp only[cB,ho,mE,List.map_cons]
  simp only[pP,gN,e,ae]
  refine tZ fun q hq=>?_
  obtain ⟨q',hq',rfl⟩:=List.mem_map.1 hq
  simp only[mE] at hq'
  rw[oT] at hq'
  obtain ⟨⟨⟨k,t⟩,l⟩,hpk,rfl⟩:=List.mem_map.1 hq'
  have hperm:=nR hpk
  have ho1:(st.set o (.fiter (some (.str k,vT t)) (mE l)))[o]?=some (.fiter (some (.str k,vT t)) (mE l)):=bQ ho
  have hin:(k,t) ∈ x::xs:=hperm.mem_iff.1 List.mem_cons_self
  generalize st.set o (.fiter (some (.str k,vT t)) (mE l))=st1 at ho1
  have e2:kL st1 (.ptr o 0)=some (.tup [.str k,vT t]):=by simp only[kL,ho1]
  simp only[aV,bB,bJ,ae,a8,e2,dc,ft,aB,aj,pQ hn,if_true]
  have hl2:l.length=n:=by have:=hperm.length_eq;simp at this hl;omega
  rcases hf:T.find es' k with _|y
  ·simp only[Option.getD_none,Option.isSome_none,dI,ae,gI,a8]
   have:=hR (st1++[.cells .rw [lvT t]]++[.cells .rw [lvT .null]])
   rwa [decide_eq_false (fun h=>by obtain ⟨y,h1,_⟩:=h _ hin;rw[hf] at h1;cases h1)] at this
  ·have e3:sA (.fn (.func g) [] []) [vT t,vT y]=some (g,[vT t,vT y]):=rfl
   simp only[Option.getD_some,Option.isSome_some,aj,dI,ae,dA,ax,mB,rG,e3]
   refine (hg _ (hsub _ hin) y hf).call ?_
   simp only[dI,ae,ec]
   refine ⟨fun h=>?_,fun h=>?_⟩
   ·have hp:¬ p t y:=by simpa using h
    have:=hR (st1++[.cells .rw [lvT t]]++[.cells .rw [lvT y]])
    rwa [decide_eq_false (fun h=>by obtain ⟨y',h1,h2⟩:=h _ hin;rw[hf] at h1;cases h1;exact hp h2)] at this
   ·have hp:p t y:=by simpa using h
    refine ih l hl2 (fun e he=>hsub e (hperm.mem_iff.1 (List.mem_cons_of_mem _ he))) _ o _ (cb (cb ho1)) fun s=>?_
    have:=hR s
    have e4:InE p es' (x::xs)=InE p es' l:=propext ⟨fun h e he=>h e (hperm.mem_iff.1 (List.mem_cons_of_mem _ he)),fun h e he=>by
     rcases List.mem_cons.1 (hperm.mem_iff.2 he) with rfl|he
     ·exact ⟨y,hf,hp⟩
     ·exact h e he⟩
    rwa [e4] at this
theorem A6 {es es':List (List UInt8 × T)} {p:T→T→Prop} (hn:(es'.map (·.1)).Nodup) {g:FuncId} (hg:∀ e ∈ es,∀ y,T.find es' e.1=some y→Pu Tryz.prog g [vT e.2,vT y] (.bool (decide (p e.2 y)))) :
  Pu Tryz.prog 114 [.imap (es.map fun e=>.str e.1) (dm es),.imap (es'.map fun e=>.str e.1) (dm es'),.fn (.func g) [] []] (.bool (decide (es.length=es'.length∧InE p es' es))):=by
 refine Pu.of (CQ _ _ _ ?_) (by simp only[LV.au,LV.plain,jx,Bool.and_true,bF (f:=fun e:List UInt8 × T=>LV.str e.1) fun _ _=>rfl]) rfl
 have e1:∀ {es:List (List UInt8 × T)} {st:aa},kM st (.imap (es.map fun e=>.str e.1) (dm es))=some (i64 es.length):=fun {es st}=>by simp only[kM,aU]
 simp only[AB,e1,ae,an,cU,ec]
 refine ⟨fun h=>?_,fun h=>?_⟩
 ·have hne:es.length≠es'.length:=fun e=>by simp[e] at h
  rw[decide_eq_false (fun k=>hne k.1)];rfl
 ·have he:es.length=es'.length:=by
   have h1:(es.length:Int)=es'.length:=by simpa using h
   omega
  have e2:∀ {st:aa},kK Tryz.prog st 173 (.imap (es.map fun e=>.str e.1) (dm es))=some (.ptr st.length 0,st++[.fiter none (mE es)]):=fun {st}=>by
   unfold kK
   rw[Tryz.underlying173]
   simp only[aU,kg,if_true,Ch]
  rw[e2]
  simp only[aj]
  refine yT hn hg es.length es rfl (fun _ h=>h) _ _ none (by simp) fun s=>?_
  by_cases hI:InE p es' es
  ·rw[decide_eq_true hI,decide_eq_true ⟨he,hI⟩];rfl
  ·rw[decide_eq_false hI,decide_eq_false fun h=>hI h.2];rfl
theorem xE {x y:Bool}:fm Tryz.prog 4 (.bool x) (.bool y)=some (x==y):=by kernel_rfl
theorem yU {x y:Int}:fm Tryz.prog 3 (.int .i64 x) (.int .i64 y)=some (x==y):=by kernel_rfl
theorem yV {x y:List UInt8}:fm Tryz.prog 9 (.str x) (.str y)=some (x==y):=by kernel_rfl
theorem xF {a b c d:Nat}:fm Tryz.prog 170 (.cplx .f64 a b) (.cplx .f64 c d)=some (Op.floatEq .f64 a c&&Op.floatEq .f64 b d):=by kernel_rfl
theorem uS:∀ {a b:List (List UInt8)},a.Nodup→(∀ x ∈ a,x ∈ b)→a.length≤b.length
 | [],_,_,_=>by simp
 | x::a,b,h,hs=>by
  rw[List.nodup_cons] at h
  have hx:=hs x (by simp)
  have h1:=uS (a:=a) (b:=b.erase x) h.2 fun y hy=>by
   have hne:y≠x:=fun e=>h.1 (e ▸ hy)
   exact (List.mem_erase_of_ne hne).2 (hs y (List.mem_cons_of_mem _ hy))
  rw[List.length_erase_of_mem hx] at h1
  have:=List.length_pos_of_mem hx
  simp only[bg];omega
theorem uT:∀ {es es':List (List UInt8 × T)},(es.map (·.1)).Pairwise ltB→(es'.map (·.1)).Pairwise ltB→es.length=es'.length→(∀ e ∈ es,e ∈ es')→es=es'
 | [],[],_,_,_,_=>rfl
 | [],_::_,_,_,h,_=>by simp at h
 | _::_,[],_,_,h,_=>by simp at h
 | e::l,e'::l',h,h',hl,hs=>by
  simp only[List.map_cons,List.pairwise_cons] at h h'
  have hll:l.length=l'.length:=by simpa using hl
  rcases List.mem_cons.1 (hs e (by simp)) with rfl|he
  ·congr 1
   refine uT h.2 h'.2 hll fun x hx=>?_
   rcases List.mem_cons.1 (hs x (List.mem_cons_of_mem _ hx)) with rfl|hx'
   ·exact absurd rfl (ig (h.1 x.1 (List.mem_map.2 ⟨x,hx,rfl⟩)))
   ·exact hx'
  ·exfalso
   have h1:ltB e'.1 e.1:=h'.1 e.1 (List.mem_map.2 ⟨e,he,rfl⟩)
   have h2:∀ x ∈ (e::l).map (·.1),x ∈ l'.map (·.1):=by
    intro x hx
    obtain ⟨y,hy,rfl⟩:=List.mem_map.1 hx
    have h3:ltB e'.1 y.1:=by
     rcases List.mem_cons.1 hy with rfl|hy
     ·exact h1
     ·exact eA h1 (h.1 y.1 (List.mem_map.2 ⟨y,hy,rfl⟩))
    rcases List.mem_cons.1 (hs y hy) with rfl|hy'
    ·exact absurd rfl (ig h3)
    ·exact List.mem_map.2 ⟨y,hy',rfl⟩
   have h4:=uS (a:=(e::l).map (·.1)) (by
    refine b6 ?_
    simp only[List.map_cons,List.pairwise_cons];exact h) h2
   simp at h4;omega
theorem xG {es es':List (List UInt8 × T)} (h:(es.map (·.1)).Pairwise ltB) (h':(es'.map (·.1)).Pairwise ltB):(es.length=es'.length∧InE (· = ·) es' es)↔T.map es=T.map es':=by
 constructor
 ·rintro ⟨h1,h2⟩
  rw[uT h h' h1 fun e he=>by
   obtain ⟨y,h3,h4⟩:=h2 e he
   have:=T.fS h3
   rw[← h4] at this;exact this]
 ·intro e
  cases e
  exact ⟨rfl,fun e he=>⟨e.2,T.ij (b6 h) he,rfl⟩⟩
def scalar:T→Prop
 | .list _ | .map _=>False
 | _=>True
theorem Ci {a b:T} (ha:a.ok) (hb:b.ok) (sa:scalar a) (sb:scalar b):nV true (fm Tryz.prog) (lvT a) (lvT b)=some (decide (a=b)):=by
 have dt:∀ {p:Prop},p→some true=some (decide p):=fun h=>by rw[decide_eq_true h]
 have df:∀ {p:Prop},¬ p→some false=some (decide p):=fun h=>by rw[decide_eq_false h]
 have db:∀ {p:Prop} {c:Bool},(c=true↔p)→some c=some (decide p):=fun {p c} h=>by
  cases c
  ·exact df fun hp=>by have:=h.2 hp;cases this
  ·exact dt (h.1 rfl)
 cases a<;>cases b<;>first|exact sa.elim|exact sb.elim|exact df (by simp) | exact dt rfl|skip
 ·rename_i x y
  exact (show nV true (fm Tryz.prog) (lvT (.bool x)) (lvT (.bool y))=some (x==y) from xE).trans (db (by simp))
 ·rename_i x y
  exact (show nV true (fm Tryz.prog) (lvT (.int x)) (lvT (.int y))=some (x==y) from yU).trans (db (by simp))
 ·rename_i x y z w
  refine (show nV true (fm Tryz.prog) (lvT (.point x y)) (lvT (.point z w))=some (Op.floatEq .f64 (fb x) (fb z)&&Op.floatEq .f64 (fb y) (fb w)) from xF).trans ?_
  simp only[T.ok] at ha hb
  rw[show fb x=FloatKind.f64.nearest x from rfl,show fb z=FloatKind.f64.nearest z from rfl,show fb y=FloatKind.f64.nearest y from rfl,show fb w=FloatKind.f64.nearest w from rfl,
   kD (by omega) (by omega),kD (by omega) (by omega)]
  exact db (by simp)
 ·rename_i x y
  exact (show nV true (fm Tryz.prog) (lvT (.text x)) (lvT (.text y))=some (x==y) from yV).trans (db (by simp))
theorem yW {a:T}:asC 171 (some .nils) (lvT a) true=some (.tup [match a with | .list l=>vL l|_=>.nils,.bool (match a with | .list _=>true|_=>false)]):=by cases a<;>rfl
theorem A8 {a:T}:asC 173 (some .nilm) (lvT a) true=some (.tup [match a with | .map es=>.imap (es.map fun e=>.str e.1) (dm es) | _=>.nilm,.bool (match a with | .map _=>true|_=>false)]):=by cases a<;>rfl
theorem uU:∀ (n:Nat) (a b:T),SizeOf.sizeOf a<n→a.ok→b.ok→Pu Tryz.prog 48 [vT a,vT b] (.bool (decide (a=b)))
 | 0,_,_,h,_,_=>by omega
 | n+1,a,b,hn,ha,hb=>by
  have hrec:∀ x ∈ a.items,∀ y,y.ok→Pu Tryz.prog 48 [vT x,vT y] (.bool (decide (x=y))):=fun x hx y hy=>uU n x y (by have:=T.eZ hx;omega) (T.fR ha x hx) hy
  refine Pu.of (c48 _ _ ?_) (by simp only[LV.au,LV.plain,ct,Bool.and_true]) rfl
  have lb:∀ {st:aa} {t:T},cn st (vT t)=some (.ptr st.length 0,st++[.cells .rw [lvT t]]):=rfl
  have g0:ld1 [ah.cells .rw [lvT a],.cells .rw [lvT b]] (.ptr 0 0)=some (lvT a):=rfl
  have g1:ld1 [ah.cells .rw [lvT a],.cells .rw [lvT b]] (.ptr 1 0)=some (lvT b):=rfl
  simp only[w48,lb,aj,aF,av,bw,List.cons_append,bu,bg,g0,g1,ae,yW,A8,aV,bB,bJ]
  have no:∀ {p:Prop} {st:aa},¬ p→dp st (.bool (decide p)) (.bool false):=fun h=>by rw[decide_eq_false h];rfl
  have yes:∀ {p q:Prop} {dq:Decidable q} {st:aa},(q↔p)→dp st (.bool (decide p)) (.bool (@decide q dq)):=fun {p q dq st} h=>by
   by_cases hp:p
   ·rw[decide_eq_true hp,decide_eq_true (h.2 hp)];rfl
   ·rw[decide_eq_false hp,decide_eq_false fun hq=>hp (h.1 hq)];rfl
  by_cases sa:scalar a
  ·by_cases sb:scalar b
   ·have he:=Ci ha hb sa sb
    cases a<;>first|exact sa.elim|skip
    all_goals cases b<;>first|exact sb.elim|skip
    all_goals simp only[ax,oq,cond_false,ae,he,wy,vv]
    all_goals exact rfl
   ·cases b<;>first|exact (sb trivial).elim|skip
    all_goals cases a<;>first|exact sa.elim|skip
    all_goals simp only[ax,a8,oq,cond_false,cond_true,ae]
    all_goals exact no (by simp)
  ·cases a<;>first|exact (sa trivial).elim|skip
   ·rename_i l
    cases b<;>simp only[ax,a8]<;>first|exact no (by simp) | skip
    rename_i l'
    refine (AJ (p:=(· = ·)) (l:=l) (l':=l') ha.1 fun i x y hx hy=>hrec x (cA hx) y (T.fR hb y (cA hy))).call ?_
    exact yes (fV.eq.trans (by simp))
   ·rename_i es
    cases b<;>simp only[ax,a8]<;>first|exact no (by simp) | skip
    rename_i es'
    refine (A6 (p:=(· = ·)) (b6 hb.2.2) fun e he y hy=>hrec e.2 (List.mem_map.2 ⟨e,he,rfl⟩) y ((T.bX.1 hb.2.1 _ (T.fS hy)).2)).call ?_
    exact yes (xG ha.2.2 hb.2.2)
end Go.Proofs.YtknegckgmklnhaaGreatDoor
namespace Go.Proofs.YtknegckgmklnhaaGreatDoor
open Go Go.CP
set_option maxRecDepth 100000
theorem gu {st:aa} {t:T}:cn st (vT t)=some (.ptr st.length 0,st++[.cells .rw [lvT t]]):=rfl
end Go.Proofs.YtknegckgmklnhaaGreatDoor
