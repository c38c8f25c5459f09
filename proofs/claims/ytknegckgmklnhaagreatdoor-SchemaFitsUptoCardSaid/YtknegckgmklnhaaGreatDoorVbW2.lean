/- Parts of the proof. -/
import Derived.Test.YtknegckgmklnhaaGreatDoorVbW
namespace Go.Proofs.YtknegckgmklnhaaGreatDoor
open Go Go.CP
set_option maxRecDepth 100000
def rX (x0 x3 x43 x44 x45:LV) (R:LV.RT) (st:aa):Prop:=LTg Tryz.prog (kindOf false) [.tmp 2] (aW Tryz.f38 15) [] R (x0::.aL::.aL::x3::(LV.jk 39 (x43::x44::x45::(LV.jk 33 [])))) st
def Nt:List Nat:=(LV.gx 1 78 [3,43,44,45])
def w38 (a0:LV) (R:LV.RT) (st:aa):Prop:=
 bd (eqB BinOp.eql (eX true a0 LV.nilp)) fun v0=>ak v0 (R (LV.str []) st)
 (bd (al a0) fun v1=>bd (ad 1 v1) fun v2=>bd (ld1 st v2) fun v3=>LZ 107 [v3] st fun v4 eQ=>bd (al a0) fun v6=>bd (ad 0 v6) fun v7=>bd (ld1 eQ v7) fun v8=>bd (ah BinOp.eql v8 (i64 5)) fun v9=>ak v9
 (bd (aK 1 v4 (i64 0)) fun iS=>bd (ld1 eQ iS) fun mK=>bd (bE BinOp.add (LV.str [108,105,115,116,40]) mK) fun nE=>bd (bE BinOp.add nE (LV.str [41])) fun oF=>R oF eQ)
 (bd (ah BinOp.eql v8 (i64 6)) fun oR=>ak oR
 (bd (aK 1 v4 (i64 0)) fun rW=>bd (ld1 eQ rW) fun aS=>bd (bE BinOp.add (LV.str [109,97,112,40]) aS) fun aT=>bd (bE BinOp.add aT (LV.str [41])) fun bY=>R bY eQ)
 (bd (ah BinOp.eql v8 (i64 7)) fun dO=>ak dO
 (LZ 108 [v4,LV.str [44]] eQ fun lE gT=>bd (bE BinOp.add (LV.str [91]) lE) fun lT=>bd (bE BinOp.add lT (LV.str [93])) fun p7=>R p7 gT)
 (bd (ah BinOp.eql v8 (i64 8)) fun p8=>ak p8
 (bd (al a0) fun p9=>bd (ad 2 p9) fun tO=>bd (ld1 eQ tO) fun iD=>bd (bg iD) fun v28=>rX a0 v4 iD v28 (i64 0) R eQ)
 (bd (al a0) fun v29=>bd (ad 0 v29) fun iF=>bd (ld1 eQ iF) fun iN=>LZ 109 [] eQ fun v32 gE=>ld1 gE iF=some iN∧bd (qT 5 (fun x j=>uA (j*1) x) v32 iN) fun v34=>R v34 gE)))))
theorem c38 (a0:LV) {R:LV.RT} {st:aa} (h:w38 a0 R st):LZ 38 [a0] st R:=
 cz Nt [] [.tmp 2] Tryz.func38 h
def vq (x0 x3 x43 x44 x45:LV) (R:LV.RT) (st:aa):Prop:=
 bd (ah BinOp.lss x45 x44) fun v0=>ak v0
 (bd (aK 1 x43 x45) fun v1=>bd (ld1 st v1) fun v2=>bd (al x0) fun v3=>bd (ad 3 v3) fun v4=>bd (ld1 st v4) fun v5=>bd (aK 1 v5 x45) fun v6=>bd (ld1 st v6) fun v7=>ak v7
 (bd (bE BinOp.add v2 (LV.str [63,58])) fun v8=>bd (aK 1 x3 x45) fun v9=>bd (ld1 st v9) fun iD=>bd (bE BinOp.add v8 iD) fun iF=>bd (aK 1 x3 x45) fun iN=>bd2 (lmk (stV st 1 iN iF)) fun _ eQ=>bd (ah BinOp.add x45 (i64 1)) fun iS=>rX x0 x3 x43 x44 iS R eQ)
 (bd (bE BinOp.add v2 (LV.str [58])) fun mK=>bd (aK 1 x3 x45) fun nE=>bd (ld1 st nE) fun oF=>bd (bE BinOp.add mK oF) fun oR=>bd (aK 1 x3 x45) fun rW=>bd2 (lmk (stV st 1 rW oR)) fun _ gE=>bd (ah BinOp.add x45 (i64 1)) fun aS=>rX x0 x3 x43 x44 aS R gE))
 (LZ 108 [x3,LV.str [44]] st fun aT gT=>bd (bE BinOp.add (LV.str [123]) aT) fun bY=>bd (bE BinOp.add bY (LV.str [125])) fun dO=>R dO gT)
theorem FV (x0 x3 x43 x44 x45:LV) {R:LV.RT} {st:aa} (h:vq x0 x3 x43 x44 x45 R st):rX x0 x3 x43 x44 x45 R st:=
 pz Nt [] h
def vr (x3 x6 x7 x8:LV) (R:LV.RT) (st:aa):Prop:=LTg Tryz.prog (kindOf false) [.tmp 2] (aW Tryz.f107 4) [] R (LV.jk 3 (x3::.aL::.aL::x6::x7::x8::(LV.jk 10 []))) st
def Kc:List Nat:=(LV.gx 0 19 [3,6,7,8])
def Nu (a0:LV) (R:LV.RT) (st:aa):Prop:=
 bd (bg a0) fun v0=>vr LV.nils a0 v0 (i64 0) R st
theorem c107 (a0:LV) {R:LV.RT} {st:aa} (h:Nu a0 R st):LZ 107 [a0] st R:=
 cz Kc [] [.tmp 2] Tryz.func107 h
def Aj (x3 x6 x7 x8:LV) (R:LV.RT) (st:aa):Prop:=
 bd (ah BinOp.lss x8 x7) fun v0=>ak v0
 (bd (aK 1 x6 x8) fun v1=>bd (ld1 st v1) fun v2=>LZ 38 [v2] st fun v3 eQ=>bd2 (aN eQ 1 (ao (fun i=>some (i*1,1)) (List.replicate 1 [LV.str []]).flatten [(0,v3)])) fun v5 gE=>bd2 (ar gE 1 16 Md.rw x3 v5) fun v7 gT=>bd (ah BinOp.add x8 (i64 1)) fun v9=>vr v7 x6 x7 v9 R gT)
 (R x3 st)
theorem FW (x3 x6 x7 x8:LV) {R:LV.RT} {st:aa} (h:Aj x3 x6 x7 x8 R st):vr x3 x6 x7 x8 R st:=
 pz Kc [] h
def Nv (a0 a1:LV) (R:LV.RT) (st:aa):Prop:=
 bd2 (ca st a1) fun v0 gT=>bd (ldA gT v0 1) fun v2=>LZ 46 [v2] gT fun v3 eQ=>bd (al a0) fun v5=>bd (ad 0 v5) fun v6=>bd (ld1 eQ v6) fun v7=>bd (ah BinOp.eql v7 (i64 1)) fun v8=>ak v8 (bd (ah BinOp.eql v3 (i64 2)) fun v9=>R v9 eQ)
 (bd (ah BinOp.eql v7 (i64 2)) fun iD=>ak iD (bd (ah BinOp.eql v3 (i64 3)) fun iF=>R iF eQ)
 (bd (ah BinOp.eql v7 (i64 3)) fun iN=>ak iN
 (bd (ah BinOp.eql v3 (i64 4)) fun iS=>ak iS (R (LV.bool true) eQ) (bd (ldA eQ v0 1) fun mK=>LZ 212 [mK] eQ fun nE gE=>R nE gE))
 (bd (ah BinOp.eql v7 (i64 4)) fun oF=>ak oF (bd (ah BinOp.eql v3 (i64 5)) fun oR=>R oR eQ) (R (LV.bool true) eQ))))
theorem Ov (a0 a1:LV) {R:LV.RT} {st:aa} (h:Nv a0 a1 R st):LZ 172 [a0,a1] st R:=
 cz [] [] [.tmp 4] Tryz.func172 h
def FX (x0 x3:LV) (R:LV.RT) (st:aa):Prop:=LTg Tryz.prog (kindOf false) [.tmp 4,.tmp 5] (aW Tryz.f118 4) [] R (x0::.aL::.aL::x3::(LV.jk 77 [])) st
def Cq (x0 x3 x7 x39:LV) (R:LV.RT) (st:aa):Prop:=LTg Tryz.prog (kindOf false) [.tmp 4,.tmp 5] (aW Tryz.f118 12) [] R (x0::.aL::.aL::x3::(LV.jk 3 (x7::(LV.jk 31 (x39::(LV.jk 41 [])))))) st
def qF (x0 x7:LV) (R:LV.RT) (st:aa):Prop:=LTg Tryz.prog (kindOf false) [.tmp 4,.tmp 5] (aW Tryz.f118 13) [] R (x0::(LV.jk 6 (x7::(LV.jk 73 [])))) st
def Cr (x4 x5:LV) (R:LV.RT) (st:aa):Prop:=LTg Tryz.prog (kindOf false) [.tmp 4,.tmp 5] (aW Tryz.f118 17) [] R (LV.jk 4 (x4::x5::(LV.jk 75 []))) st
def Cs (x4 x5:LV) (R:LV.RT) (st:aa):Prop:=LTg Tryz.prog (kindOf false) [.tmp 4,.tmp 5] (aW Tryz.f118 21) [] R (LV.jk 4 (x4::x5::(LV.jk 75 []))) st
def tB:List (Nat × List Nat):=[(0,[1,2,4,5,6,7,8,9,10,11,12,13,14,15,16,17,18,19,20,21,22,23,24,25,26,27,28,29,30,31,32,33,34,35,36,37,38,39,40,41,42,43,44,45,46,47,48,49,50,51,52,53,54,55,56,57,58,59,60,61,62,63,64,65,66,67,68,69,70,71,72,73,74,75,76,77,78,79,80]),(1,[1,2,3,4,5,6,8,9,10,11,12,13,14,15,16,17,18,19,20,21,22,23,24,25,26,27,28,29,30,31,32,33,34,35,36,37,38,39,40,41,42,43,44,45,46,47,48,49,50,51,52,53,54,55,56,57,58,59,60,61,62,63,64,65,66,67,68,69,70,71,72,73,74,75,76,77,78,79,80])]
def tC:List (Nat × List Nat):=[(11,(LV.gx 1 80 [3,7,39])),(15,(LV.gx 0 81 [4,5])),(19,(LV.gx 0 81 [4,5]))]
def Nw (a0 a1:LV) (R:LV.RT) (st:aa):Prop:=
 bd2 (ca st a1) fun v0 gT=>bd (eqB BinOp.eql (eX true a0 LV.nilp)) fun v2=>ak v2 (R (LV.tup [LV.nils,LV.bool true]) gT)
 (bd (ldA gT v0 1) fun v3=>LZ 46 [v3] gT fun v4 eQ=>bd (ah BinOp.eql v4 (i64 0)) fun v6=>ak v6 (R (LV.tup [LV.nils,LV.bool false]) eQ)
 (bd (ah BinOp.eql v4 (i64 1)) fun v7=>ak v7 (R (LV.tup [LV.nils,LV.bool false]) eQ)
 (bd (al a0) fun v8=>bd (ad 0 v8) fun v9=>bd (ld1 eQ v9) fun iF=>bd (ah BinOp.lss iF (i64 5)) fun iN=>ak iN (bd (ldA eQ v0 1) fun iS=>LZ 172 [a0,iS] eQ fun mK iD=>bd (lun UnOp.not mK) fun nE=>R (LV.tup [LV.nils,nE]) iD)
 (LZ 167 [a0] eQ fun oF gE=>bd (ah BinOp.neq v4 oF) fun oR=>ak oR (R (LV.tup [LV.nils,LV.bool true]) gE) (FX a0 v0 R gE)))))
theorem Ow (a0 a1:LV) {R:LV.RT} {st:aa} (h:Nw a0 a1 R st):LZ 118 [a0,a1] st R:=
 az.ofE (gl:=[]) (cuts:=tB) (rc:=tC) (n:=3000) aO Tryz.func118 (show Tryz.f118.body=some (bz Tryz.f118) by kernel_rfl) (by kernel_rfl) (show Tryz.f118.results.toList=[.tmp 4,.tmp 5] by kernel_rfl) (by kernel_rfl) h
def FY (x0 x3:LV) (R:LV.RT) (st:aa):Prop:=
 bd (ldA st x3 1) fun v0=>LZ 101 [v0] st fun v1 eQ=>bd (al x0) fun v3=>bd (ad 0 v3) fun v4=>bd (ld1 eQ v4) fun v5=>Cq x0 x3 v1 v5 R eQ
theorem Lw (x0 x3:LV) {R:LV.RT} {st:aa} (h:FY x0 x3 R st):FX x0 x3 R st:=
 LTg.atE (gl:=[]) (cuts:=tB) (rc:=tC) (n:=3000) aO (by kernel_rfl) h
def Ct (x0 x3 x7 x39:LV) (R:LV.RT) (st:aa):Prop:=
 bd (ah BinOp.eql x39 (i64 8)) fun v0=>ak v0 (bd (ldA st x3 1) fun v1=>LZ 173 [x0,v1] st fun v2 iF=>bd (aj v2 0) fun v4=>bd (aj v2 1) fun v5=>R (LV.tup [v4,v5]) iF)
 (bd (ah BinOp.eql x39 (i64 6)) fun v6=>ak v6
 (bd (al x0) fun v7=>bd (ad 1 v7) fun v8=>bd (ld1 st v8) fun v9=>bd (ldA st x3 1) fun iN=>LZ 49 [iN] st fun iS eQ=>ld1 eQ v8=some v9∧
 LZ 175 [iS] eQ fun mK gE=>ld1 gE v8=some v9∧LZ 174 [v9,x7,mK] gE fun iD gT=>bd (aj iD 0) fun nE=>bd (aj iD 1) fun oF=>Cr nE oF R gT)
 (bd (ah BinOp.eql x39 (i64 7)) fun oR=>ak oR
 (bd (bg x7) fun rW=>bd (al x0) fun aS=>bd (ad 1 aS) fun aT=>bd (ld1 st aT) fun bY=>bd (bg bY) fun dO=>bd (ah BinOp.neq rW dO) fun lE=>ak lE (R (LV.tup [LV.nils,LV.bool true]) st) (qF x0 x7 R st))
 (qF x0 x7 R st)))
theorem It (x0 x3 x7 x39:LV) {R:LV.RT} {st:aa} (h:Ct x0 x3 x7 x39 R st):Cq x0 x3 x7 x39 R st:=
 LTg.atE (gl:=[]) (cuts:=tB) (rc:=tC) (n:=3000) aO (by kernel_rfl) h
def Cu (x0 x7:LV) (R:LV.RT) (st:aa):Prop:=
 bd (al x0) fun v0=>bd (ad 1 v0) fun v1=>bd (ld1 st v1) fun v2=>bd (bg x7) fun v3=>LZ 176 [v3] st fun v4 eQ=>ld1 eQ v1=some v2∧LZ 174 [v2,x7,v4] eQ fun v6 gE=>bd (aj v6 0) fun v8=>bd (aj v6 1) fun v9=>Cs v8 v9 R gE
theorem Iu (x0 x7:LV) {R:LV.RT} {st:aa} (h:Cu x0 x7 R st):qF x0 x7 R st:=
 LTg.atE (gl:=[]) (cuts:=tB) (rc:=tC) (n:=3000) aO (by kernel_rfl) h
def Iv (x4 x5:LV) (R:LV.RT) (st:aa):Prop:=
 R (LV.tup [x4,x5]) st
theorem Iw (x4 x5:LV) {R:LV.RT} {st:aa} (h:Iv x4 x5 R st):Cr x4 x5 R st:=
 LTg.atE (gl:=[]) (cuts:=tB) (rc:=tC) (n:=3000) aO (by kernel_rfl) h
def Ix (x4 x5:LV) (R:LV.RT) (st:aa):Prop:=
 R (LV.tup [x4,x5]) st
theorem Iy (x4 x5:LV) {R:LV.RT} {st:aa} (h:Ix x4 x5 R st):Cs x4 x5 R st:=
 LTg.atE (gl:=[]) (cuts:=tB) (rc:=tC) (n:=3000) aO (by kernel_rfl) h
def vt (x0 x3 x6 x18 x19 x20 x54 x55 x56:LV) (R:LV.RT) (st:aa):Prop:=LTg Tryz.prog (kindOf false) [.tmp 4,.tmp 5] (aW Tryz.f173 4) [] R (x0::.aL::.aL::x3::.aL::.aL::x6::(LV.jk 11 (x18::x19::x20::(LV.jk 33 (x54::x55::x56::(LV.jk 7 [])))))) st
def Cv (x0 x3 x6 x18 x19 x20 x54 x55 x56:LV) (R:LV.RT) (st:aa):Prop:=LTg Tryz.prog (kindOf false) [.tmp 4,.tmp 5] (aW Tryz.f173 17) [] R (x0::.aL::.aL::x3::.aL::.aL::x6::(LV.jk 11 (x18::x19::x20::(LV.jk 33 (x54::x55::x56::(LV.jk 7 [])))))) st
def FZ:List Nat:=(LV.gx 1 63 [3,6,18,19,20,54,55,56])
def Nx (a0 a1:LV) (R:LV.RT) (st:aa):Prop:=
 bd2 (ca st a1) fun v0 eQ=>bd (ldA eQ v0 1) fun v2=>LZ 101 [v2] eQ fun v3 gE=>bd (ldA gE v0 1) fun v5=>LZ 49 [v5] gE fun v6 gT=>bd (bg v6) fun v8=>vt a0 v0 v3 v6 v8 (i64 0) (LV.tup []) (LV.tup []) (LV.tup []) R gT
theorem c173 (a0 a1:LV) {R:LV.RT} {st:aa} (h:Nx a0 a1 R st):LZ 173 [a0,a1] st R:=
 cz FZ [] [.tmp 4,.tmp 5] Tryz.func173 h
def Ak (x0 x3 x6 x18 x19 x20 x54 x55 x56:LV) (R:LV.RT) (st:aa):Prop:=
 bd (ah BinOp.lss x20 x19) fun v0=>ak v0
 (bd (aK 1 x18 x20) fun v1=>bd (ld1 st v1) fun v2=>LZ 213 [x0,v2] st fun v3 gE=>bd (aj v3 0) fun v5=>bd (aj v3 1) fun v6=>bd (lun UnOp.not v6) fun v7=>ak v7
 (LZ 214 [v2] gE fun v8 oF=>bd2 (aN oF 1 (ao (fun i=>some (i*2,2)) (List.replicate 1 [LV.str [],i64 0]).flatten [(0,v8)])) fun oR gT=>R (LV.tup [oR,LV.bool true]) gT)
 (bd (aK 1 x6 x20) fun rW=>bd (ldA gE rW 1) fun aS=>LZ 118 [v5,aS] gE fun mK eQ=>bd (aj mK 0) fun aT=>bd (aj mK 1) fun bY=>ak bY
 (LZ 214 [v2] eQ fun dO iD=>bd2 (aN iD 1 (ao (fun i=>some (i*2,2)) (List.replicate 1 [LV.str [],i64 0]).flatten [(0,dO)])) fun lE iF=>bd2 (ar iF 2 24 Md.rw lE aT) fun lT iN=>R (LV.tup [lT,LV.bool true]) iN)
 (bd (ah BinOp.add x20 (i64 1)) fun p7=>vt x0 x3 x6 x18 x19 p7 x54 x55 x56 R eQ)))
 (bd (ldA st x3 1) fun p8=>LZ 207 [x0,p8] st fun nE iS=>bd (bg nE) fun p9=>Cv x0 x3 x6 x18 x19 x20 nE p9 (i64 0) R iS)
theorem F5 (x0 x3 x6 x18 x19 x20 x54 x55 x56:LV) {R:LV.RT} {st:aa} (h:Ak x0 x3 x6 x18 x19 x20 x54 x55 x56 R st):vt x0 x3 x6 x18 x19 x20 x54 x55 x56 R st:=
 pz FZ [] h
def Cw (_x0:LV) (_x3:LV) (_x6:LV) (_x18:LV) (_x19:LV) (_x20:LV) (x54:LV) (x55:LV) (x56:LV) (R:LV.RT) (st:aa):Prop:=
 bd (ah BinOp.lss x56 x55) fun v0=>ak v0
 (bd (aK 1 x54 x56) fun v1=>bd (ld1 st v1) fun v2=>LZ 214 [v2] st fun v3 st4=>bd2 (aN st4 1 (ao (fun i=>some (i*2,2)) (List.replicate 1 [LV.str [],i64 0]).flatten [(0,v3)])) fun v5 st6=>R (LV.tup [v5,LV.bool true]) st6)
 (R (LV.tup [LV.nils,LV.bool false]) st)
theorem Iz (x0 x3 x6 x18 x19 x20 x54 x55 x56:LV) {R:LV.RT} {st:aa} (h:Cw x0 x3 x6 x18 x19 x20 x54 x55 x56 R st):Cv x0 x3 x6 x18 x19 x20 x54 x55 x56 R st:=
 pz FZ [] h
def vu (x0 x2 x12 x13 x14:LV) (R:LV.RT) (st:aa):Prop:=LTg Tryz.prog (kindOf false) [.tmp 6,.tmp 7] (aW Tryz.f174 3) [] R (x0::.aL::x2::(LV.jk 9 (x12::x13::x14::(LV.jk 26 [])))) st
def F7 (x0 x2 x8 x10 x11 x12 x13 x14:LV) (R:LV.RT) (st:aa):Prop:=LTg Tryz.prog (kindOf false) [.tmp 6,.tmp 7] (aW Tryz.f174 7) [] R (x0::.aL::x2::(LV.jk 5 (x8::.aL::x10::x11::x12::x13::x14::(LV.jk 26 [])))) st
def F9:List Nat:=(LV.gx 1 40 [2,12,13,14])
def Ga:List (Nat × List Nat):=[(4,(LV.gx 1 40 [2,8,10,11,12,13,14]))]
def Ny (a0 a1 a2:LV) (R:LV.RT) (st:aa):Prop:=
 bd (bg a1) fun v0=>vu a0 a2 a1 v0 (i64 0) R st
theorem Ox (a0 a1 a2:LV) {R:LV.RT} {st:aa} (h:Ny a0 a1 a2 R st):LZ 174 [a0,a1,a2] st R:=
 cz F9 Ga [.tmp 6,.tmp 7] Tryz.func174 h
def Al (x0 x2 x12 x13 x14:LV) (R:LV.RT) (st:aa):Prop:=
 bd (ah BinOp.lss x14 x13) fun v0=>ak v0
 (bd (aK 1 x12 x14) fun v1=>bd (ldA st v1 1) fun v2=>nw st [LV.nili] fun v3 iD=>bd2 (lmk (stV iD 1 v3 v2)) fun _ eQ=>bd (bg x0) fun v7=>bd (ah BinOp.sub v7 (i64 1)) fun v8=>bd (kb [x14,v8]) fun v9=>bd (aK 1 x0 v9) fun iF=>bd (ld1 eQ iF) fun iN=>bd (ldA eQ v3 1) fun iS=>LZ 118 [iN,iS] eQ fun gT gE=>bd (aj gT 0) fun mK=>bd (aj gT 1) fun nE=>F7 x0 x2 x14 mK nE x12 x13 x14 R gE)
 (R (LV.tup [LV.nils,LV.bool false]) st)
theorem Gb (x0 x2 x12 x13 x14:LV) {R:LV.RT} {st:aa} (h:Al x0 x2 x12 x13 x14 R st):vu x0 x2 x12 x13 x14 R st:=
 pz F9 Ga h
def Am (x0 x2 x8 x10 x11 x12 x13 x14:LV) (R:LV.RT) (st:aa):Prop:=
 ak x11
 (bd (aK 2 x2 x8) fun v0=>bd (ldA st v0 2) fun v1=>bd2 (aN st 1 (ao (fun i=>some (i*2,2)) (List.replicate 1 [LV.str [],i64 0]).flatten [(0,v1)])) fun v2 eQ=>bd2 (ar eQ 2 24 Md.rw v2 x10) fun v4 gE=>R (LV.tup [v4,LV.bool true]) gE)
 (bd (ah BinOp.add x14 (i64 1)) fun v6=>vu x0 x2 x12 x13 v6 R st)
theorem Lx (x0 x2 x8 x10 x11 x12 x13 x14:LV) {R:LV.RT} {st:aa} (h:Am x0 x2 x8 x10 x11 x12 x13 x14 R st):F7 x0 x2 x8 x10 x11 x12 x13 x14 R st:=
 pz F9 Ga h
def rY (x3 x6 x7 x8:LV) (R:LV.RT) (st:aa):Prop:=LTg Tryz.prog (kindOf false) [.tmp 2] (aW Tryz.f175 4) [] R (LV.jk 3 (x3::.aL::.aL::x6::x7::x8::(LV.jk 10 []))) st
def Kd:List Nat:=(LV.gx 0 19 [3,6,7,8])
def Oy (a0:LV) (R:LV.RT) (st:aa):Prop:=
 bd (bg a0) fun v0=>rY LV.nils a0 v0 (i64 0) R st
theorem c175 (a0:LV) {R:LV.RT} {st:aa} (h:Oy a0 R st):LZ 175 [a0] st R:=
 cz Kd [] [.tmp 2] Tryz.func175 h
def An (x3 x6 x7 x8:LV) (R:LV.RT) (st:aa):Prop:=
 bd (ah BinOp.lss x8 x7) fun v0=>ak v0
 (bd (aK 1 x6 x8) fun v1=>bd (ld1 st v1) fun v2=>LZ 214 [v2] st fun v3 eQ=>bd2 (aN eQ 1 (ao (fun i=>some (i*2,2)) (List.replicate 1 [LV.str [],i64 0]).flatten [(0,v3)])) fun v5 gE=>bd2 (ar gE 2 24 Md.rw x3 v5) fun v7 gT=>bd (ah BinOp.add x8 (i64 1)) fun v9=>rY v7 x6 x7 v9 R gT)
 (R x3 st)
theorem Gc (x3 x6 x7 x8:LV) {R:LV.RT} {st:aa} (h:An x3 x6 x7 x8 R st):rY x3 x6 x7 x8 R st:=
 pz Kd [] h
def rZ (x3 x5 x6:LV) (R:LV.RT) (st:aa):Prop:=LTg Tryz.prog (kindOf false) [.tmp 2] (aW Tryz.f176 4) [] R (LV.jk 3 (x3::.aL::x5::x6::(LV.jk 9 []))) st
def Ke:List Nat:=(LV.gx 0 16 [3,5,6])
def Oz (a0:LV) (R:LV.RT) (st:aa):Prop:=
 rZ LV.nils a0 (i64 0) R st
theorem OA (a0:LV) {R:LV.RT} {st:aa} (h:Oz a0 R st):LZ 176 [a0] st R:=
 cz Ke [] [.tmp 2] Tryz.func176 h
def Ao (x3 x5 x6:LV) (R:LV.RT) (st:aa):Prop:=
 bd (ah BinOp.lss x6 x5) fun v0=>ak v0
 (LZ 215 [x6] st fun v1 eQ=>bd2 (aN eQ 1 (ao (fun i=>some (i*2,2)) (List.replicate 1 [LV.str [],i64 0]).flatten [(0,v1)])) fun v3 gE=>bd2 (ar gE 2 24 Md.rw x3 v3) fun v5 gT=>bd (ah BinOp.add x6 (i64 1)) fun v7=>rZ v5 x5 v7 R gT)
 (R x3 st)
theorem Gd (x3 x5 x6:LV) {R:LV.RT} {st:aa} (h:Ao x3 x5 x6 R st):rZ x3 x5 x6 R st:=
 pz Ke [] h
def Nz (a0:LV) (R:LV.RT) (st:aa):Prop:=
 bd2 (ca st a0) fun v0 gT=>bd (ldA gT v0 1) fun v2=>LZ 98 [v2] gT fun v3 iD=>bd (aj v3 0) fun v5=>bd (aj v3 1) fun v6=>LZ 93 [v5,i64 0] iD fun v7 iF=>bd (aj v7 0) fun v9=>bd (aj v7 1) fun iN=>nw iF [LV.nili] fun iS gE=>bd2 (lmk (stV gE 1 iS v9)) fun _ eQ=>ak v6 (bd (ah BinOp.eql iN (i64 0)) fun mK=>R mK eQ) (R (LV.bool false) eQ)
theorem c212 (a0:LV) {R:LV.RT} {st:aa} (h:Nz a0 R st):LZ 212 [a0] st R:=
 cz [] [] [.tmp 2] Tryz.func212 h
def r5 (x0 x1 x7 x8:LV) (R:LV.RT) (st:aa):Prop:=LTg Tryz.prog (kindOf false) [.tmp 4] (aW Tryz.f158 3) [] R (x0::x1::(LV.jk 5 (x7::x8::(LV.jk 10 [])))) st
def Kf:List Nat:=(LV.gx 2 17 [7,8])
def OC (a0 a1:LV) (R:LV.RT) (st:aa):Prop:=
 bd (bg a0) fun v0=>r5 a0 a1 v0 (i64 0) R st
theorem OD (a0 a1:LV) {R:LV.RT} {st:aa} (h:OC a0 a1 R st):LZ 158 [a0,a1] st R:=
 cz Kf [] [.tmp 4] Tryz.func158 h
def Ap (x0 x1 x7 x8:LV) (R:LV.RT) (st:aa):Prop:=
 bd (ah BinOp.lss x8 x7) fun v0=>ak v0 (bd (aK 1 x0 x8) fun v1=>bd (ld1 st v1) fun v2=>bd (bE BinOp.eql x1 v2) fun v3=>ak v3 (R x8 st) (bd (ah BinOp.add x8 (i64 1)) fun v4=>r5 x0 x1 x7 v4 R st))
 (R (i64 (-1)) st)
theorem Gf (x0 x1 x7 x8:LV) {R:LV.RT} {st:aa} (h:Ap x0 x1 x7 x8 R st):r5 x0 x1 x7 x8 R st:=
 pz Kf [] h
def pc (x0 x3 x5 x15 x16 x17:LV) (R:LV.RT) (st:aa):Prop:=LTg Tryz.prog (kindOf false) [.tmp 4] (aW Tryz.f207 5) [] R (x0::.aL::.aL::x3::.aL::x5::(LV.jk 9 (x15::x16::x17::(LV.jk 28 [])))) st
def Kg:List Nat:=(LV.gx 1 45 [3,5,15,16,17])
def NA (a0 a1:LV) (R:LV.RT) (st:aa):Prop:=
 bd2 (ca st a1) fun v0 eQ=>bd (eqB BinOp.neq (eX true a0 LV.nilp)) fun v2=>ak v2 (bd (al a0) fun v3=>bd (ad 2 v3) fun v4=>bd (ld1 eQ v4) fun v5=>bd (bg v5) fun v6=>pc a0 v0 LV.nils v5 v6 (i64 0) R eQ) (R LV.nils eQ)
theorem OE (a0 a1:LV) {R:LV.RT} {st:aa} (h:NA a0 a1 R st):LZ 207 [a0,a1] st R:=
 cz Kg [] [.tmp 4] Tryz.func207 h
def Aq (x0 x3 x5 x15 x16 x17:LV) (R:LV.RT) (st:aa):Prop:=
 bd (ah BinOp.lss x17 x16) fun v0=>ak v0
 (bd (aK 1 x15 x17) fun v1=>bd (ld1 st v1) fun v2=>bd (ldA st x3 1) fun v3=>LZ 50 [v3,v2] st fun v4 iD=>bd (aj v4 0) fun v6=>bd (aj v4 1) fun v7=>nw iD [LV.nili] fun v8 iF=>bd2 (lmk (stV iF 1 v8 v6)) fun _ eQ=>bd (lun UnOp.not v7) fun iN=>ak iN
 (bd (al x0) fun iS=>bd (ad 3 iS) fun mK=>bd (ld1 eQ mK) fun nE=>bd (aK 1 nE x17) fun oF=>bd (ld1 eQ oF) fun oR=>bd (lun UnOp.not oR) fun rW=>ak rW
 (bd2 (aN eQ 1 (ao (fun i=>some (i*1,1)) (List.replicate 1 [LV.str []]).flatten [(0,v2)])) fun aS gE=>bd2 (ar gE 1 16 Md.rw x5 aS) fun aT gT=>bd (ah BinOp.add x17 (i64 1)) fun bY=>pc x0 x3 aT x15 x16 bY R gT)
 (bd (ah BinOp.add x17 (i64 1)) fun dO=>pc x0 x3 x5 x15 x16 dO R eQ))
 (bd (ah BinOp.add x17 (i64 1)) fun lE=>pc x0 x3 x5 x15 x16 lE R eQ))
 (R x5 st)
theorem Gg (x0 x3 x5 x15 x16 x17:LV) {R:LV.RT} {st:aa} (h:Aq x0 x3 x5 x15 x16 x17 R st):pc x0 x3 x5 x15 x16 x17 R st:=
 pz Kg [] h
def NB (a0:LV) (R:LV.RT) (st:aa):Prop:=
 nw st [LV.str [],i64 0] fun v0 gE=>bd (aP (ao (aA [(0,1),(1,1)]) [LV.str [],i64 0] [(0,a0),(1,i64 (-1))])) fun v2=>bd2 (lmk (stV gE 2 v0 v2)) fun _ eQ=>bd (ldA eQ v0 2) fun v5=>R v5 eQ
theorem OG (a0:LV) {R:LV.RT} {st:aa} (h:NB a0 R st):LZ 214 [a0] st R:=
 cz [] [] [.cell 2 141] Tryz.func214 h
def NC (a0:LV) (R:LV.RT) (st:aa):Prop:=
 nw st [LV.str [],i64 0] fun v0 gE=>bd (aP (ao (aA [(0,1),(1,1)]) [LV.str [],i64 0] [(1,a0)])) fun v2=>bd2 (lmk (stV gE 2 v0 v2)) fun _ eQ=>bd (ldA eQ v0 2) fun v5=>R v5 eQ
theorem OH (a0:LV) {R:LV.RT} {st:aa} (h:NC a0 R st):LZ 215 [a0] st R:=
 cz [] [] [.cell 2 141] Tryz.func215 h
end Go.Proofs.YtknegckgmklnhaaGreatDoor
namespace Go.CP
inductive T where
 | null|unknown
 | bool (b:Bool)
 | int (n:Int)
 | point (a b:Int)
 | text (s:List UInt8)
 | list (l:List T)
 | map (es:List (List UInt8 × T))
namespace T
def kind:T→Int
 | null=>0
 | unknown=>1
 | bool _=>2
 | int _=>3
 | point _ _=>4
 | text _=>5
 | list _=>6
 | map _=>7
def keys:T→List (List UInt8)
 | map es=>es.map (·.1)
 | _=>[]
def items:T→List T
 | list l=>l
 | map es=>es.map (·.2)
 | _=>[]
theorem r6 {t x:T} (h:x ∈ t.items):SizeOf.sizeOf x<SizeOf.sizeOf t:=by
 cases t<;>simp only[items,List.not_mem_nil] at h
 ·have:=List.sizeOf_lt_of_mem h
  simp;omega
 ·obtain ⟨e,he,rfl⟩:=List.mem_map.1 h
  have h1:=List.sizeOf_lt_of_mem he
  obtain ⟨k,v⟩:=e
  simp at h1 ⊢;omega
end T
def fb (n:Int):Nat:=FloatKind.f64.nearest n
abbrev ltB (a b:List UInt8):Prop:=Op.bytesLess a b=true
def big:Nat:=2 ^ 30
mutual
def T.ok:T→Prop
 | .int n=>-9223372036854775808≤n∧n<9223372036854775808
 | .point a b=>(-9007199254740992≤a∧a≤9007199254740992)∧(-9007199254740992≤b∧b≤9007199254740992)
 | .text s=>s.length≤big
 | .list l=>l.length≤big∧T.oks l
 | .map es=>es.length≤big∧T.okm es∧(es.map (·.1)).Pairwise ltB
 | _=>True
def T.oks:List T→Prop
 | []=>True
 | t::ts=>T.ok t∧T.oks ts
def T.okm:List (List UInt8 × T)→Prop
 | []=>True
 | e::es=>(e.1.length≤big∧T.ok e.2)∧T.okm es
end
theorem T.jN:∀ {l:List T},T.oks l↔∀ t ∈ l,t.ok
 | []=>by simp[T.oks]
 | t::ts=>by simp[T.oks,T.jN (l:=ts)]
theorem T.nG:∀ {l:List (List UInt8 × T)},T.okm l↔∀ e ∈ l,e.1.length≤big∧e.2.ok
 | []=>by simp[T.okm]
 | t::ts=>by simp[T.okm,T.nG (l:=ts)]
theorem lK:∀ x:List UInt8,Op.bytesLess x x=false
 | []=>rfl
 | a::x=>by simp[Op.bytesLess,lK x]
theorem kU:∀ {x y z:List UInt8},Op.bytesLess x y=true→Op.bytesLess y z=true→Op.bytesLess x z=true
 | _,_,[],_,h=>by simp[Op.bytesLess] at h
 | _,[],_::_,h,_=>by simp[Op.bytesLess] at h
 | [],_::_,_::_,_,_=>rfl
 | a::x,b::y,c::z,h,k=>by
  simp only[Op.bytesLess,Bool.or_eq_true,decide_eq_true_eq,Bool.and_eq_true,beq_iff_eq,UInt8.lt_iff_toNat_lt] at h k ⊢
  rcases h with h|⟨rfl,h⟩
  ·rcases k with k|⟨rfl,k⟩
   ·left;omega
   ·left;exact h
  ·rcases k with k|⟨rfl,k⟩
   ·left;exact k
   ·right;exact ⟨rfl,kU h k⟩
theorem r7:∀ {x y:List UInt8},Op.bytesLess x y=false→Op.bytesLess y x=false→x=y
 | [],[],_,_=>rfl
 | [],_::_,h,_=>by simp[Op.bytesLess] at h
 | _::_,[],_,h=>by simp[Op.bytesLess] at h
 | a::x,b::y,h,k=>by
  simp only[Op.bytesLess,Bool.or_eq_false_iff,decide_eq_false_iff_not,Bool.and_eq_false_iff,UInt8.lt_iff_toNat_lt] at h k
  have e:a=b:=UInt8.toNat_inj.1 (by omega)
  subst e
  simp only[beq_self_eq_true,Bool.true_eq_false,false_or] at h k
  rw[r7 h.2 k.2]
theorem xR {x y:List UInt8} (h:Op.bytesLess x y=true):Op.bytesLess y x=false:=by
 rw[Bool.eq_false_iff]
 intro k
 have:=kU h k
 rw[lK] at this;cases this
theorem Ar {a b:List UInt8} (h:ltB a b):a≠b:=fun e=>by subst e;unfold ltB at h;rw[lK] at h;cases h
theorem dB {l:List (List UInt8)} (h:l.Pairwise ltB):l.Nodup:=h.imp Ar
def T.find (es:List (List UInt8 × T)) (k:List UInt8):Option T:=(es.find? fun e=>e.1==k).map (·.2)
def T.at (t:T) (k:List UInt8):Option T:=match t with
 | .map es=>T.find es k
 | _=>none
theorem T.ik {t:T} (h:t.ok):∀ x ∈ t.items,x.ok:=by
 cases t<;>simp only[T.items,List.not_mem_nil,false_implies,implies_true]
 ·simp only[T.ok] at h;exact T.jN.1 h.2
 ·simp only[T.ok] at h
  intro x hx
  obtain ⟨e,he,rfl⟩:=List.mem_map.1 hx
  exact (T.nG.1 h.2.1 e he).2
theorem T.xS {es:List (List UInt8 × T)} {k:List UInt8} {t:T} (h:T.find es k=some t):(k,t) ∈ es:=by
 unfold T.find at h
 obtain ⟨e,he,rfl⟩:=Option.map_eq_some_iff.1 h
 have h1:=List.mem_of_find?_eq_some he
 have h2:=List.find?_some he
 simp only[beq_iff_eq] at h2
 subst h2;exact h1
theorem T.kW {es:List (List UInt8 × T)} (hn:(es.map (·.1)).Nodup) {k:List UInt8} {t:T} (h:(k,t) ∈ es):T.find es k=some t:=by
 induction es with
 | nil=>cases h
 | cons e es ih=>
  simp only[List.map_cons,List.nodup_cons] at hn
  rcases List.mem_cons.1 h with rfl|h
  ·simp[T.find]
  ·have hne:e.1≠k:=fun c=>hn.1 (c ▸ List.mem_map.2 ⟨_,h,rfl⟩)
   have:=ih hn.2 h
   unfold T.find at this ⊢
   rw[List.find?_cons_of_neg (by simpa using hne)];exact this
theorem T.DK {es:List (List UInt8 × T)} {k:List UInt8}:T.find es k=none↔k ∉ es.map (·.1):=by
 unfold T.find
 simp only[Option.map_eq_none_iff,List.find?_eq_none,beq_iff_eq,List.mem_map,not_exists,not_and]
end Go.CP
