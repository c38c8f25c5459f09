/- Parts of the proof. -/
import Derived.Test.YtknegckgmklnhaaGreatDoorVbW
namespace Go.Proofs.YtknegckgmklnhaaGreatDoor
open Go Go.CP
set_option maxRecDepth 100000
def tF (x0 x3 x43 x44 x45:LV) (R:LV.RT) (st:aa):Prop:=LTg Tryz.prog (kindOf false) [.tmp 2] (br Tryz.f38 15) [] R (x0::.aY::.aY::x3::(LV.jk 39 (x43::x44::x45::(LV.jk 33 [])))) st
def PW:List Nat:=(LV.gx 1 78 [3,43,44,45])
def w38 (a0:LV) (R:LV.RT) (st:aa):Prop:=
 bd (eqB BinOp.eql (eI true a0 LV.nilp)) fun v0=>aq v0 (R (LV.str []) st)
 (bd (ak a0) fun v1=>bd (ag 1 v1) fun v2=>bd (ld1 st v2) fun v3=>LZ 107 [v3] st fun v4 eQ=>bd (ak a0) fun v6=>bd (ag 0 v6) fun v7=>bd (ld1 eQ v7) fun v8=>bd (al BinOp.eql v8 (i64 5)) fun v9=>aq v9
 (bd (bn 1 v4 (i64 0)) fun iS=>bd (ld1 eQ iS) fun mK=>bd (ck BinOp.add (LV.str [108,105,115,116,40]) mK) fun nE=>bd (ck BinOp.add nE (LV.str [41])) fun oF=>R oF eQ)
 (bd (al BinOp.eql v8 (i64 6)) fun oR=>aq oR
 (bd (bn 1 v4 (i64 0)) fun rW=>bd (ld1 eQ rW) fun aS=>bd (ck BinOp.add (LV.str [109,97,112,40]) aS) fun aT=>bd (ck BinOp.add aT (LV.str [41])) fun bY=>R bY eQ)
 (bd (al BinOp.eql v8 (i64 7)) fun dO=>aq dO
 (LZ 108 [v4,LV.str [44]] eQ fun lE gT=>bd (ck BinOp.add (LV.str [91]) lE) fun lT=>bd (ck BinOp.add lT (LV.str [93])) fun p7=>R p7 gT)
 (bd (al BinOp.eql v8 (i64 8)) fun p8=>aq p8
 (bd (ak a0) fun p9=>bd (ag 2 p9) fun tO=>bd (ld1 eQ tO) fun iD=>bd (bB iD) fun v28=>tF a0 v4 iD v28 (i64 0) R eQ)
 (bd (ak a0) fun v29=>bd (ag 0 v29) fun iF=>bd (ld1 eQ iF) fun iN=>LZ 109 [] eQ fun v32 gE=>ld1 gE iF=some iN∧bd (sr 5 (fun x j=>wh (j*1) x) v32 iN) fun v34=>R v34 gE)))))
theorem c38 (a0:LV) {R:LV.RT} {st:aa} (h:w38 a0 R st):LZ 38 [a0] st R:=
 cz PW [] [.tmp 2] Tryz.func38 h
def xx (x0 x3 x43 x44 x45:LV) (R:LV.RT) (st:aa):Prop:=
 bd (al BinOp.lss x45 x44) fun v0=>aq v0
 (bd (bn 1 x43 x45) fun v1=>bd (ld1 st v1) fun v2=>bd (ak x0) fun v3=>bd (ag 3 v3) fun v4=>bd (ld1 st v4) fun v5=>bd (bn 1 v5 x45) fun v6=>bd (ld1 st v6) fun v7=>aq v7
 (bd (ck BinOp.add v2 (LV.str [63,58])) fun v8=>bd (bn 1 x3 x45) fun v9=>bd (ld1 st v9) fun iD=>bd (ck BinOp.add v8 iD) fun iF=>bd (bn 1 x3 x45) fun iN=>bd2 (lmk (stV st 1 iN iF)) fun _ eQ=>bd (al BinOp.add x45 (i64 1)) fun iS=>tF x0 x3 x43 x44 iS R eQ)
 (bd (ck BinOp.add v2 (LV.str [58])) fun mK=>bd (bn 1 x3 x45) fun nE=>bd (ld1 st nE) fun oF=>bd (ck BinOp.add mK oF) fun oR=>bd (bn 1 x3 x45) fun rW=>bd2 (lmk (stV st 1 rW oR)) fun _ gE=>bd (al BinOp.add x45 (i64 1)) fun aS=>tF x0 x3 x43 x44 aS R gE))
 (LZ 108 [x3,LV.str [44]] st fun aT gT=>bd (ck BinOp.add (LV.str [123]) aT) fun bY=>bd (ck BinOp.add bY (LV.str [125])) fun dO=>R dO gT)
theorem HR (x0 x3 x43 x44 x45:LV) {R:LV.RT} {st:aa} (h:xx x0 x3 x43 x44 x45 R st):tF x0 x3 x43 x44 x45 R st:=
 pz PW [] h
def xy (x3 x6 x7 x8:LV) (R:LV.RT) (st:aa):Prop:=LTg Tryz.prog (kindOf false) [.tmp 2] (br Tryz.f107 4) [] R (LV.jk 3 (x3::.aY::.aY::x6::x7::x8::(LV.jk 10 []))) st
def Mu:List Nat:=(LV.gx 0 19 [3,6,7,8])
def PX (a0:LV) (R:LV.RT) (st:aa):Prop:=
 bd (bB a0) fun v0=>xy LV.nils a0 v0 (i64 0) R st
theorem c107 (a0:LV) {R:LV.RT} {st:aa} (h:PX a0 R st):LZ 107 [a0] st R:=
 cz Mu [] [.tmp 2] Tryz.func107 h
def B5 (x3 x6 x7 x8:LV) (R:LV.RT) (st:aa):Prop:=
 bd (al BinOp.lss x8 x7) fun v0=>aq v0
 (bd (bn 1 x6 x8) fun v1=>bd (ld1 st v1) fun v2=>LZ 38 [v2] st fun v3 eQ=>bd2 (cq eQ 1 (aB (fun i=>some (i*1,1)) (List.replicate 1 [LV.str []]).flatten [(0,v3)])) fun v5 gE=>bd2 (bo gE 1 16 Md.rw x3 v5) fun v7 gT=>bd (al BinOp.add x8 (i64 1)) fun v9=>xy v7 x6 x7 v9 R gT)
 (R x3 st)
theorem HS (x3 x6 x7 x8:LV) {R:LV.RT} {st:aa} (h:B5 x3 x6 x7 x8 R st):xy x3 x6 x7 x8 R st:=
 pz Mu [] h
def PY (a0 a1:LV) (R:LV.RT) (st:aa):Prop:=
 bd2 (cu st a1) fun v0 gT=>bd (ldA gT v0 1) fun v2=>LZ 46 [v2] gT fun v3 eQ=>bd (ak a0) fun v5=>bd (ag 0 v5) fun v6=>bd (ld1 eQ v6) fun v7=>bd (al BinOp.eql v7 (i64 1)) fun v8=>aq v8 (bd (al BinOp.eql v3 (i64 2)) fun v9=>R v9 eQ)
 (bd (al BinOp.eql v7 (i64 2)) fun iD=>aq iD (bd (al BinOp.eql v3 (i64 3)) fun iF=>R iF eQ)
 (bd (al BinOp.eql v7 (i64 3)) fun iN=>aq iN
 (bd (al BinOp.eql v3 (i64 4)) fun iS=>aq iS (R (LV.bool true) eQ) (bd (ldA eQ v0 1) fun mK=>LZ 212 [mK] eQ fun nE gE=>R nE gE))
 (bd (al BinOp.eql v7 (i64 4)) fun oF=>aq oF (bd (al BinOp.eql v3 (i64 5)) fun oR=>R oR eQ) (R (LV.bool true) eQ))))
theorem Rg (a0 a1:LV) {R:LV.RT} {st:aa} (h:PY a0 a1 R st):LZ 172 [a0,a1] st R:=
 cz [] [] [.tmp 4] Tryz.func172 h
def HT (x0 x3:LV) (R:LV.RT) (st:aa):Prop:=LTg Tryz.prog (kindOf false) [.tmp 4,.tmp 5] (br Tryz.f118 4) [] R (x0::.aY::.aY::x3::(LV.jk 77 [])) st
def D5 (x0 x3 x7 x39:LV) (R:LV.RT) (st:aa):Prop:=LTg Tryz.prog (kindOf false) [.tmp 4,.tmp 5] (br Tryz.f118 12) [] R (x0::.aY::.aY::x3::(LV.jk 3 (x7::(LV.jk 31 (x39::(LV.jk 41 [])))))) st
def rX (x0 x7:LV) (R:LV.RT) (st:aa):Prop:=LTg Tryz.prog (kindOf false) [.tmp 4,.tmp 5] (br Tryz.f118 13) [] R (x0::(LV.jk 6 (x7::(LV.jk 73 [])))) st
def D6 (x4 x5:LV) (R:LV.RT) (st:aa):Prop:=LTg Tryz.prog (kindOf false) [.tmp 4,.tmp 5] (br Tryz.f118 17) [] R (LV.jk 4 (x4::x5::(LV.jk 75 []))) st
def D7 (x4 x5:LV) (R:LV.RT) (st:aa):Prop:=LTg Tryz.prog (kindOf false) [.tmp 4,.tmp 5] (br Tryz.f118 21) [] R (LV.jk 4 (x4::x5::(LV.jk 75 []))) st
def u6:List (Nat × List Nat):=[(0,[1,2,4,5,6,7,8,9,10,11,12,13,14,15,16,17,18,19,20,21,22,23,24,25,26,27,28,29,30,31,32,33,34,35,36,37,38,39,40,41,42,43,44,45,46,47,48,49,50,51,52,53,54,55,56,57,58,59,60,61,62,63,64,65,66,67,68,69,70,71,72,73,74,75,76,77,78,79,80]),(1,[1,2,3,4,5,6,8,9,10,11,12,13,14,15,16,17,18,19,20,21,22,23,24,25,26,27,28,29,30,31,32,33,34,35,36,37,38,39,40,41,42,43,44,45,46,47,48,49,50,51,52,53,54,55,56,57,58,59,60,61,62,63,64,65,66,67,68,69,70,71,72,73,74,75,76,77,78,79,80])]
def u7:List (Nat × List Nat):=[(11,(LV.gx 1 80 [3,7,39])),(15,(LV.gx 0 81 [4,5])),(19,(LV.gx 0 81 [4,5]))]
def PZ (a0 a1:LV) (R:LV.RT) (st:aa):Prop:=
 bd2 (cu st a1) fun v0 gT=>bd (eqB BinOp.eql (eI true a0 LV.nilp)) fun v2=>aq v2 (R (LV.tup [LV.nils,LV.bool true]) gT)
 (bd (ldA gT v0 1) fun v3=>LZ 46 [v3] gT fun v4 eQ=>bd (al BinOp.eql v4 (i64 0)) fun v6=>aq v6 (R (LV.tup [LV.nils,LV.bool false]) eQ)
 (bd (al BinOp.eql v4 (i64 1)) fun v7=>aq v7 (R (LV.tup [LV.nils,LV.bool false]) eQ)
 (bd (ak a0) fun v8=>bd (ag 0 v8) fun v9=>bd (ld1 eQ v9) fun iF=>bd (al BinOp.lss iF (i64 5)) fun iN=>aq iN (bd (ldA eQ v0 1) fun iS=>LZ 172 [a0,iS] eQ fun mK iD=>bd (lun UnOp.not mK) fun nE=>R (LV.tup [LV.nils,nE]) iD)
 (LZ 167 [a0] eQ fun oF gE=>bd (al BinOp.neq v4 oF) fun oR=>aq oR (R (LV.tup [LV.nils,LV.bool true]) gE) (HT a0 v0 R gE)))))
theorem Rh (a0 a1:LV) {R:LV.RT} {st:aa} (h:PZ a0 a1 R st):LZ 118 [a0,a1] st R:=
 aw.ofE (gl:=[]) (cuts:=u6) (rc:=u7) (n:=3000) aJ Tryz.func118 (show Tryz.f118.body=some (bG Tryz.f118) by kernel_rfl) (by kernel_rfl) (show Tryz.f118.results.toList=[.tmp 4,.tmp 5] by kernel_rfl) (by kernel_rfl) h
def HU (x0 x3:LV) (R:LV.RT) (st:aa):Prop:=
 bd (ldA st x3 1) fun v0=>LZ 101 [v0] st fun v1 eQ=>bd (ak x0) fun v3=>bd (ag 0 v3) fun v4=>bd (ld1 eQ v4) fun v5=>D5 x0 x3 v1 v5 R eQ
theorem NY (x0 x3:LV) {R:LV.RT} {st:aa} (h:HU x0 x3 R st):HT x0 x3 R st:=
 LTg.atE (gl:=[]) (cuts:=u6) (rc:=u7) (n:=3000) aJ (by kernel_rfl) h
def D8 (x0 x3 x7 x39:LV) (R:LV.RT) (st:aa):Prop:=
 bd (al BinOp.eql x39 (i64 8)) fun v0=>aq v0 (bd (ldA st x3 1) fun v1=>LZ 173 [x0,v1] st fun v2 iF=>bd (ai v2 0) fun v4=>bd (ai v2 1) fun v5=>R (LV.tup [v4,v5]) iF)
 (bd (al BinOp.eql x39 (i64 6)) fun v6=>aq v6
 (bd (ak x0) fun v7=>bd (ag 1 v7) fun v8=>bd (ld1 st v8) fun v9=>bd (ldA st x3 1) fun iN=>LZ 49 [iN] st fun iS eQ=>ld1 eQ v8=some v9∧
 LZ 175 [iS] eQ fun mK gE=>ld1 gE v8=some v9∧LZ 174 [v9,x7,mK] gE fun iD gT=>bd (ai iD 0) fun nE=>bd (ai iD 1) fun oF=>D6 nE oF R gT)
 (bd (al BinOp.eql x39 (i64 7)) fun oR=>aq oR
 (bd (bB x7) fun rW=>bd (ak x0) fun aS=>bd (ag 1 aS) fun aT=>bd (ld1 st aT) fun bY=>bd (bB bY) fun dO=>bd (al BinOp.neq rW dO) fun lE=>aq lE (R (LV.tup [LV.nils,LV.bool true]) st) (rX x0 x7 R st))
 (rX x0 x7 R st)))
theorem Kr (x0 x3 x7 x39:LV) {R:LV.RT} {st:aa} (h:D8 x0 x3 x7 x39 R st):D5 x0 x3 x7 x39 R st:=
 LTg.atE (gl:=[]) (cuts:=u6) (rc:=u7) (n:=3000) aJ (by kernel_rfl) h
def D9 (x0 x7:LV) (R:LV.RT) (st:aa):Prop:=
 bd (ak x0) fun v0=>bd (ag 1 v0) fun v1=>bd (ld1 st v1) fun v2=>bd (bB x7) fun v3=>LZ 176 [v3] st fun v4 eQ=>ld1 eQ v1=some v2∧LZ 174 [v2,x7,v4] eQ fun v6 gE=>bd (ai v6 0) fun v8=>bd (ai v6 1) fun v9=>D7 v8 v9 R gE
theorem Ks (x0 x7:LV) {R:LV.RT} {st:aa} (h:D9 x0 x7 R st):rX x0 x7 R st:=
 LTg.atE (gl:=[]) (cuts:=u6) (rc:=u7) (n:=3000) aJ (by kernel_rfl) h
def Kt (x4 x5:LV) (R:LV.RT) (st:aa):Prop:=
 R (LV.tup [x4,x5]) st
theorem Ku (x4 x5:LV) {R:LV.RT} {st:aa} (h:Kt x4 x5 R st):D6 x4 x5 R st:=
 LTg.atE (gl:=[]) (cuts:=u6) (rc:=u7) (n:=3000) aJ (by kernel_rfl) h
def Kv (x4 x5:LV) (R:LV.RT) (st:aa):Prop:=
 R (LV.tup [x4,x5]) st
theorem Kw (x4 x5:LV) {R:LV.RT} {st:aa} (h:Kv x4 x5 R st):D7 x4 x5 R st:=
 LTg.atE (gl:=[]) (cuts:=u6) (rc:=u7) (n:=3000) aJ (by kernel_rfl) h
def xz (x0 x3 x6 x18 x19 x20 x54 x55 x56:LV) (R:LV.RT) (st:aa):Prop:=LTg Tryz.prog (kindOf false) [.tmp 4,.tmp 5] (br Tryz.f173 4) [] R (x0::.aY::.aY::x3::.aY::.aY::x6::(LV.jk 11 (x18::x19::x20::(LV.jk 33 (x54::x55::x56::(LV.jk 7 [])))))) st
def Ea (x0 x3 x6 x18 x19 x20 x54 x55 x56:LV) (R:LV.RT) (st:aa):Prop:=LTg Tryz.prog (kindOf false) [.tmp 4,.tmp 5] (br Tryz.f173 17) [] R (x0::.aY::.aY::x3::.aY::.aY::x6::(LV.jk 11 (x18::x19::x20::(LV.jk 33 (x54::x55::x56::(LV.jk 7 [])))))) st
def HV:List Nat:=(LV.gx 1 63 [3,6,18,19,20,54,55,56])
def Qa (a0 a1:LV) (R:LV.RT) (st:aa):Prop:=
 bd2 (cu st a1) fun v0 eQ=>bd (ldA eQ v0 1) fun v2=>LZ 101 [v2] eQ fun v3 gE=>bd (ldA gE v0 1) fun v5=>LZ 49 [v5] gE fun v6 gT=>bd (bB v6) fun v8=>xz a0 v0 v3 v6 v8 (i64 0) (LV.tup []) (LV.tup []) (LV.tup []) R gT
theorem c173 (a0 a1:LV) {R:LV.RT} {st:aa} (h:Qa a0 a1 R st):LZ 173 [a0,a1] st R:=
 cz HV [] [.tmp 4,.tmp 5] Tryz.func173 h
def B6 (x0 x3 x6 x18 x19 x20 x54 x55 x56:LV) (R:LV.RT) (st:aa):Prop:=
 bd (al BinOp.lss x20 x19) fun v0=>aq v0
 (bd (bn 1 x18 x20) fun v1=>bd (ld1 st v1) fun v2=>LZ 213 [x0,v2] st fun v3 gE=>bd (ai v3 0) fun v5=>bd (ai v3 1) fun v6=>bd (lun UnOp.not v6) fun v7=>aq v7
 (LZ 214 [v2] gE fun v8 oF=>bd2 (cq oF 1 (aB (fun i=>some (i*2,2)) (List.replicate 1 [LV.str [],i64 0]).flatten [(0,v8)])) fun oR gT=>R (LV.tup [oR,LV.bool true]) gT)
 (bd (bn 1 x6 x20) fun rW=>bd (ldA gE rW 1) fun aS=>LZ 118 [v5,aS] gE fun mK eQ=>bd (ai mK 0) fun aT=>bd (ai mK 1) fun bY=>aq bY
 (LZ 214 [v2] eQ fun dO iD=>bd2 (cq iD 1 (aB (fun i=>some (i*2,2)) (List.replicate 1 [LV.str [],i64 0]).flatten [(0,dO)])) fun lE iF=>bd2 (bo iF 2 24 Md.rw lE aT) fun lT iN=>R (LV.tup [lT,LV.bool true]) iN)
 (bd (al BinOp.add x20 (i64 1)) fun p7=>xz x0 x3 x6 x18 x19 p7 x54 x55 x56 R eQ)))
 (bd (ldA st x3 1) fun p8=>LZ 207 [x0,p8] st fun nE iS=>bd (bB nE) fun p9=>Ea x0 x3 x6 x18 x19 x20 nE p9 (i64 0) R iS)
theorem HW (x0 x3 x6 x18 x19 x20 x54 x55 x56:LV) {R:LV.RT} {st:aa} (h:B6 x0 x3 x6 x18 x19 x20 x54 x55 x56 R st):xz x0 x3 x6 x18 x19 x20 x54 x55 x56 R st:=
 pz HV [] h
def Eb (_x0:LV) (_x3:LV) (_x6:LV) (_x18:LV) (_x19:LV) (_x20:LV) (x54:LV) (x55:LV) (x56:LV) (R:LV.RT) (st:aa):Prop:=
 bd (al BinOp.lss x56 x55) fun v0=>aq v0
 (bd (bn 1 x54 x56) fun v1=>bd (ld1 st v1) fun v2=>LZ 214 [v2] st fun v3 st4=>bd2 (cq st4 1 (aB (fun i=>some (i*2,2)) (List.replicate 1 [LV.str [],i64 0]).flatten [(0,v3)])) fun v5 st6=>R (LV.tup [v5,LV.bool true]) st6)
 (R (LV.tup [LV.nils,LV.bool false]) st)
theorem Kx (x0 x3 x6 x18 x19 x20 x54 x55 x56:LV) {R:LV.RT} {st:aa} (h:Eb x0 x3 x6 x18 x19 x20 x54 x55 x56 R st):Ea x0 x3 x6 x18 x19 x20 x54 x55 x56 R st:=
 pz HV [] h
def xA (x0 x2 x12 x13 x14:LV) (R:LV.RT) (st:aa):Prop:=LTg Tryz.prog (kindOf false) [.tmp 6,.tmp 7] (br Tryz.f174 3) [] R (x0::.aY::x2::(LV.jk 9 (x12::x13::x14::(LV.jk 26 [])))) st
def HX (x0 x2 x8 x10 x11 x12 x13 x14:LV) (R:LV.RT) (st:aa):Prop:=LTg Tryz.prog (kindOf false) [.tmp 6,.tmp 7] (br Tryz.f174 7) [] R (x0::.aY::x2::(LV.jk 5 (x8::.aY::x10::x11::x12::x13::x14::(LV.jk 26 [])))) st
def HY:List Nat:=(LV.gx 1 40 [2,12,13,14])
def HZ:List (Nat × List Nat):=[(4,(LV.gx 1 40 [2,8,10,11,12,13,14]))]
def Qb (a0 a1 a2:LV) (R:LV.RT) (st:aa):Prop:=
 bd (bB a1) fun v0=>xA a0 a2 a1 v0 (i64 0) R st
theorem Ri (a0 a1 a2:LV) {R:LV.RT} {st:aa} (h:Qb a0 a1 a2 R st):LZ 174 [a0,a1,a2] st R:=
 cz HY HZ [.tmp 6,.tmp 7] Tryz.func174 h
def B7 (x0 x2 x12 x13 x14:LV) (R:LV.RT) (st:aa):Prop:=
 bd (al BinOp.lss x14 x13) fun v0=>aq v0
 (bd (bn 1 x12 x14) fun v1=>bd (ldA st v1 1) fun v2=>nw st [LV.nili] fun v3 iD=>bd2 (lmk (stV iD 1 v3 v2)) fun _ eQ=>bd (bB x0) fun v7=>bd (al BinOp.sub v7 (i64 1)) fun v8=>bd (kZ [x14,v8]) fun v9=>bd (bn 1 x0 v9) fun iF=>bd (ld1 eQ iF) fun iN=>bd (ldA eQ v3 1) fun iS=>LZ 118 [iN,iS] eQ fun gT gE=>bd (ai gT 0) fun mK=>bd (ai gT 1) fun nE=>HX x0 x2 x14 mK nE x12 x13 x14 R gE)
 (R (LV.tup [LV.nils,LV.bool false]) st)
theorem H0 (x0 x2 x12 x13 x14:LV) {R:LV.RT} {st:aa} (h:B7 x0 x2 x12 x13 x14 R st):xA x0 x2 x12 x13 x14 R st:=
 pz HY HZ h
def B8 (x0 x2 x8 x10 x11 x12 x13 x14:LV) (R:LV.RT) (st:aa):Prop:=
 aq x11
 (bd (bn 2 x2 x8) fun v0=>bd (ldA st v0 2) fun v1=>bd2 (cq st 1 (aB (fun i=>some (i*2,2)) (List.replicate 1 [LV.str [],i64 0]).flatten [(0,v1)])) fun v2 eQ=>bd2 (bo eQ 2 24 Md.rw v2 x10) fun v4 gE=>R (LV.tup [v4,LV.bool true]) gE)
 (bd (al BinOp.add x14 (i64 1)) fun v6=>xA x0 x2 x12 x13 v6 R st)
theorem NZ (x0 x2 x8 x10 x11 x12 x13 x14:LV) {R:LV.RT} {st:aa} (h:B8 x0 x2 x8 x10 x11 x12 x13 x14 R st):HX x0 x2 x8 x10 x11 x12 x13 x14 R st:=
 pz HY HZ h
def tG (x3 x6 x7 x8:LV) (R:LV.RT) (st:aa):Prop:=LTg Tryz.prog (kindOf false) [.tmp 2] (br Tryz.f175 4) [] R (LV.jk 3 (x3::.aY::.aY::x6::x7::x8::(LV.jk 10 []))) st
def Mv:List Nat:=(LV.gx 0 19 [3,6,7,8])
def Rj (a0:LV) (R:LV.RT) (st:aa):Prop:=
 bd (bB a0) fun v0=>tG LV.nils a0 v0 (i64 0) R st
theorem c175 (a0:LV) {R:LV.RT} {st:aa} (h:Rj a0 R st):LZ 175 [a0] st R:=
 cz Mv [] [.tmp 2] Tryz.func175 h
def B9 (x3 x6 x7 x8:LV) (R:LV.RT) (st:aa):Prop:=
 bd (al BinOp.lss x8 x7) fun v0=>aq v0
 (bd (bn 1 x6 x8) fun v1=>bd (ld1 st v1) fun v2=>LZ 214 [v2] st fun v3 eQ=>bd2 (cq eQ 1 (aB (fun i=>some (i*2,2)) (List.replicate 1 [LV.str [],i64 0]).flatten [(0,v3)])) fun v5 gE=>bd2 (bo gE 2 24 Md.rw x3 v5) fun v7 gT=>bd (al BinOp.add x8 (i64 1)) fun v9=>tG v7 x6 x7 v9 R gT)
 (R x3 st)
theorem H2 (x3 x6 x7 x8:LV) {R:LV.RT} {st:aa} (h:B9 x3 x6 x7 x8 R st):tG x3 x6 x7 x8 R st:=
 pz Mv [] h
def tH (x3 x5 x6:LV) (R:LV.RT) (st:aa):Prop:=LTg Tryz.prog (kindOf false) [.tmp 2] (br Tryz.f176 4) [] R (LV.jk 3 (x3::.aY::x5::x6::(LV.jk 9 []))) st
def Mw:List Nat:=(LV.gx 0 16 [3,5,6])
def Rk (a0:LV) (R:LV.RT) (st:aa):Prop:=
 tH LV.nils a0 (i64 0) R st
theorem Rl (a0:LV) {R:LV.RT} {st:aa} (h:Rk a0 R st):LZ 176 [a0] st R:=
 cz Mw [] [.tmp 2] Tryz.func176 h
def Ca (x3 x5 x6:LV) (R:LV.RT) (st:aa):Prop:=
 bd (al BinOp.lss x6 x5) fun v0=>aq v0
 (LZ 215 [x6] st fun v1 eQ=>bd2 (cq eQ 1 (aB (fun i=>some (i*2,2)) (List.replicate 1 [LV.str [],i64 0]).flatten [(0,v1)])) fun v3 gE=>bd2 (bo gE 2 24 Md.rw x3 v3) fun v5 gT=>bd (al BinOp.add x6 (i64 1)) fun v7=>tH v5 x5 v7 R gT)
 (R x3 st)
theorem H3 (x3 x5 x6:LV) {R:LV.RT} {st:aa} (h:Ca x3 x5 x6 R st):tH x3 x5 x6 R st:=
 pz Mw [] h
def Qc (a0:LV) (R:LV.RT) (st:aa):Prop:=
 bd2 (cu st a0) fun v0 gT=>bd (ldA gT v0 1) fun v2=>LZ 98 [v2] gT fun v3 iD=>bd (ai v3 0) fun v5=>bd (ai v3 1) fun v6=>LZ 93 [v5,i64 0] iD fun v7 iF=>bd (ai v7 0) fun v9=>bd (ai v7 1) fun iN=>nw iF [LV.nili] fun iS gE=>bd2 (lmk (stV gE 1 iS v9)) fun _ eQ=>aq v6 (bd (al BinOp.eql iN (i64 0)) fun mK=>R mK eQ) (R (LV.bool false) eQ)
theorem c212 (a0:LV) {R:LV.RT} {st:aa} (h:Qc a0 R st):LZ 212 [a0] st R:=
 cz [] [] [.tmp 2] Tryz.func212 h
def tI (x0 x1 x7 x8:LV) (R:LV.RT) (st:aa):Prop:=LTg Tryz.prog (kindOf false) [.tmp 4] (br Tryz.f158 3) [] R (x0::x1::(LV.jk 5 (x7::x8::(LV.jk 10 [])))) st
def Mx:List Nat:=(LV.gx 2 17 [7,8])
def Rm (a0 a1:LV) (R:LV.RT) (st:aa):Prop:=
 bd (bB a0) fun v0=>tI a0 a1 v0 (i64 0) R st
theorem Rn (a0 a1:LV) {R:LV.RT} {st:aa} (h:Rm a0 a1 R st):LZ 158 [a0,a1] st R:=
 cz Mx [] [.tmp 4] Tryz.func158 h
def Cb (x0 x1 x7 x8:LV) (R:LV.RT) (st:aa):Prop:=
 bd (al BinOp.lss x8 x7) fun v0=>aq v0 (bd (bn 1 x0 x8) fun v1=>bd (ld1 st v1) fun v2=>bd (ck BinOp.eql x1 v2) fun v3=>aq v3 (R x8 st) (bd (al BinOp.add x8 (i64 1)) fun v4=>tI x0 x1 x7 v4 R st))
 (R (i64 (-1)) st)
theorem H4 (x0 x1 x7 x8:LV) {R:LV.RT} {st:aa} (h:Cb x0 x1 x7 x8 R st):tI x0 x1 x7 x8 R st:=
 pz Mx [] h
def qv (x0 x3 x5 x15 x16 x17:LV) (R:LV.RT) (st:aa):Prop:=LTg Tryz.prog (kindOf false) [.tmp 4] (br Tryz.f207 5) [] R (x0::.aY::.aY::x3::.aY::x5::(LV.jk 9 (x15::x16::x17::(LV.jk 28 [])))) st
def My:List Nat:=(LV.gx 1 45 [3,5,15,16,17])
def Qd (a0 a1:LV) (R:LV.RT) (st:aa):Prop:=
 bd2 (cu st a1) fun v0 eQ=>bd (eqB BinOp.neq (eI true a0 LV.nilp)) fun v2=>aq v2 (bd (ak a0) fun v3=>bd (ag 2 v3) fun v4=>bd (ld1 eQ v4) fun v5=>bd (bB v5) fun v6=>qv a0 v0 LV.nils v5 v6 (i64 0) R eQ) (R LV.nils eQ)
theorem Ro (a0 a1:LV) {R:LV.RT} {st:aa} (h:Qd a0 a1 R st):LZ 207 [a0,a1] st R:=
 cz My [] [.tmp 4] Tryz.func207 h
def Cc (x0 x3 x5 x15 x16 x17:LV) (R:LV.RT) (st:aa):Prop:=
 bd (al BinOp.lss x17 x16) fun v0=>aq v0
 (bd (bn 1 x15 x17) fun v1=>bd (ld1 st v1) fun v2=>bd (ldA st x3 1) fun v3=>LZ 50 [v3,v2] st fun v4 iD=>bd (ai v4 0) fun v6=>bd (ai v4 1) fun v7=>nw iD [LV.nili] fun v8 iF=>bd2 (lmk (stV iF 1 v8 v6)) fun _ eQ=>bd (lun UnOp.not v7) fun iN=>aq iN
 (bd (ak x0) fun iS=>bd (ag 3 iS) fun mK=>bd (ld1 eQ mK) fun nE=>bd (bn 1 nE x17) fun oF=>bd (ld1 eQ oF) fun oR=>bd (lun UnOp.not oR) fun rW=>aq rW
 (bd2 (cq eQ 1 (aB (fun i=>some (i*1,1)) (List.replicate 1 [LV.str []]).flatten [(0,v2)])) fun aS gE=>bd2 (bo gE 1 16 Md.rw x5 aS) fun aT gT=>bd (al BinOp.add x17 (i64 1)) fun bY=>qv x0 x3 aT x15 x16 bY R gT)
 (bd (al BinOp.add x17 (i64 1)) fun dO=>qv x0 x3 x5 x15 x16 dO R eQ))
 (bd (al BinOp.add x17 (i64 1)) fun lE=>qv x0 x3 x5 x15 x16 lE R eQ))
 (R x5 st)
theorem H5 (x0 x3 x5 x15 x16 x17:LV) {R:LV.RT} {st:aa} (h:Cc x0 x3 x5 x15 x16 x17 R st):qv x0 x3 x5 x15 x16 x17 R st:=
 pz My [] h
def Qe (a0:LV) (R:LV.RT) (st:aa):Prop:=
 nw st [LV.str [],i64 0] fun v0 gE=>bd (bh (aB (aF [(0,1),(1,1)]) [LV.str [],i64 0] [(0,a0),(1,i64 (-1))])) fun v2=>bd2 (lmk (stV gE 2 v0 v2)) fun _ eQ=>bd (ldA eQ v0 2) fun v5=>R v5 eQ
theorem Rq (a0:LV) {R:LV.RT} {st:aa} (h:Qe a0 R st):LZ 214 [a0] st R:=
 cz [] [] [.cell 2 141] Tryz.func214 h
def Qf (a0:LV) (R:LV.RT) (st:aa):Prop:=
 nw st [LV.str [],i64 0] fun v0 gE=>bd (bh (aB (aF [(0,1),(1,1)]) [LV.str [],i64 0] [(1,a0)])) fun v2=>bd2 (lmk (stV gE 2 v0 v2)) fun _ eQ=>bd (ldA eQ v0 2) fun v5=>R v5 eQ
theorem Rr (a0:LV) {R:LV.RT} {st:aa} (h:Qf a0 R st):LZ 215 [a0] st R:=
 cz [] [] [.cell 2 141] Tryz.func215 h
end Go.Proofs.YtknegckgmklnhaaGreatDoor
namespace Go.CP
inductive T where
 | null|unknown
 | bool (b:Bool)
 | int (n:Int)
 | point (a b:Int)
 | text (s:List UInt8)
 | list (l:List T)
 | map (es:List (List UInt8 × T))
namespace T
def kind:T→Int
 | null=>0
 | unknown=>1
 | bool _=>2
 | int _=>3
 | point _ _=>4
 | text _=>5
 | list _=>6
 | map _=>7
def keys:T→List (List UInt8)
 | map es=>es.map (·.1)
 | _=>[]
def items:T→List T
 | list l=>l
 | map es=>es.map (·.2)
 | _=>[]
theorem fB {t x:T} (h:x ∈ t.items):SizeOf.sizeOf x<SizeOf.sizeOf t:=by
 cases t<;>simp only[items,List.not_mem_nil] at h
 ·have:=List.sizeOf_lt_of_mem h
  simp;omega
 ·obtain ⟨e,he,rfl⟩:=List.mem_map.1 h
  have h1:=List.sizeOf_lt_of_mem he
  obtain ⟨k,v⟩:=e
  simp at h1 ⊢;omega
end T
def fb (n:Int):Nat:=FloatKind.f64.nearest n
abbrev ltB (a b:List UInt8):Prop:=Op.bytesLess a b=true
def big:Nat:=2 ^ 30
mutual
def T.ok:T→Prop
 | .int n=>-9223372036854775808≤n∧n<9223372036854775808
 | .point a b=>(-9007199254740992≤a∧a≤9007199254740992)∧(-9007199254740992≤b∧b≤9007199254740992)
 | .text s=>s.length≤big
 | .list l=>l.length≤big∧T.oks l
 | .map es=>es.length≤big∧T.okm es∧(es.map (·.1)).Pairwise ltB
 | _=>True
def T.oks:List T→Prop
 | []=>True
 | t::ts=>T.ok t∧T.oks ts
def T.okm:List (List UInt8 × T)→Prop
 | []=>True
 | e::es=>(e.1.length≤big∧T.ok e.2)∧T.okm es
end
theorem T.kL:∀ {l:List T},T.oks l↔∀ t ∈ l,t.ok
 | []=>by simp[T.oks]
 | t::ts=>by simp[T.oks,T.kL (l:=ts)]
theorem T.oT:∀ {l:List (List UInt8 × T)},T.okm l↔∀ e ∈ l,e.1.length≤big∧e.2.ok
 | []=>by simp[T.okm]
 | t::ts=>by simp[T.okm,T.oT (l:=ts)]
theorem mH:∀ x:List UInt8,Op.bytesLess x x=false
 | []=>rfl
 | a::x=>by simp[Op.bytesLess,mH x]
theorem jS:∀ {x y z:List UInt8},Op.bytesLess x y=true→Op.bytesLess y z=true→Op.bytesLess x z=true
 | _,_,[],_,h=>by simp[Op.bytesLess] at h
 | _,[],_::_,h,_=>by simp[Op.bytesLess] at h
 | [],_::_,_::_,_,_=>rfl
 | a::x,b::y,c::z,h,k=>by
  simp only[Op.bytesLess,Bool.or_eq_true,decide_eq_true_eq,bp,beq_iff_eq,UInt8.lt_iff_toNat_lt] at h k ⊢
  rcases h with h|⟨rfl,h⟩
  ·rcases k with k|⟨rfl,k⟩
   ·left;omega
   ·left;exact h
  ·rcases k with k|⟨rfl,k⟩
   ·left;exact k
   ·right;exact ⟨rfl,jS h k⟩
theorem tJ:∀ {x y:List UInt8},Op.bytesLess x y=false→Op.bytesLess y x=false→x=y
 | [],[],_,_=>rfl
 | [],_::_,h,_=>by simp[Op.bytesLess] at h
 | _::_,[],_,h=>by simp[Op.bytesLess] at h
 | a::x,b::y,h,k=>by
  simp only[Op.bytesLess,Bool.or_eq_false_iff,decide_eq_false_iff_not,Bool.and_eq_false_iff,UInt8.lt_iff_toNat_lt] at h k
  have e:a=b:=UInt8.toNat_inj.1 (by omega)
  subst e
  simp only[beq_self_eq_true,Bool.true_eq_false,false_or] at h k
  rw[tJ h.2 k.2]
theorem zN {x y:List UInt8} (h:Op.bytesLess x y=true):Op.bytesLess y x=false:=by
 rw[Bool.eq_false_iff]
 intro k
 have:=jS h k
 rw[mH] at this;cases this
theorem xB {a b:List UInt8} (h:ltB a b):a≠b:=fun e=>by subst e;unfold ltB at h;rw[mH] at h;cases h
theorem ey {l:List (List UInt8)} (h:l.Pairwise ltB):l.Nodup:=h.imp xB
def T.find (es:List (List UInt8 × T)) (k:List UInt8):Option T:=(es.find? fun e=>e.1==k).map (·.2)
def T.at (t:T) (k:List UInt8):Option T:=match t with
 | .map es=>T.find es k
 | _=>none
theorem T.dY {t:T} (h:t.ok):∀ x ∈ t.items,x.ok:=by
 cases t<;>simp only[T.items,List.not_mem_nil,false_implies,implies_true]
 ·simp only[T.ok] at h;exact T.kL.1 h.2
 ·simp only[T.ok] at h
  intro x hx
  obtain ⟨e,he,rfl⟩:=List.mem_map.1 hx
  exact (T.oT.1 h.2.1 e he).2
theorem T.tK {es:List (List UInt8 × T)} {k:List UInt8} {t:T} (h:T.find es k=some t):(k,t) ∈ es:=by
 unfold T.find at h
 obtain ⟨e,he,rfl⟩:=Option.map_eq_some_iff.1 h
 have h1:=List.mem_of_find?_eq_some he
 have h2:=List.find?_some he
 simp only[beq_iff_eq] at h2
 subst h2;exact h1
theorem T.rk {es:List (List UInt8 × T)} (hn:(es.map (·.1)).Nodup) {k:List UInt8} {t:T} (h:(k,t) ∈ es):T.find es k=some t:=by
 induction es with
 | nil=>cases h
 | cons e es ih=>
  simp only[List.map_cons,List.nodup_cons] at hn
  rcases List.mem_cons.1 h with rfl|h
  ·simp[T.find]
  ·have hne:e.1≠k:=fun c=>hn.1 (c ▸ List.mem_map.2 ⟨_,h,rfl⟩)
   have:=ih hn.2 h
   unfold T.find at this ⊢
   rw[List.find?_cons_of_neg (by simpa using hne)];exact this
theorem T.FL {es:List (List UInt8 × T)} {k:List UInt8}:T.find es k=none↔k ∉ es.map (·.1):=by
 unfold T.find
 simp only[Option.map_eq_none_iff,List.find?_eq_none,beq_iff_eq,yw,not_exists,not_and]
end Go.CP
