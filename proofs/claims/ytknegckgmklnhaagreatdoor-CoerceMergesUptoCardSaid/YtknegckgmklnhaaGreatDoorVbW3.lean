/- Parts of the proof. -/
import Derived.Test.YtknegckgmklnhaaGreatDoorVbW4
import Derived.Shelf.Strings.Builder1
import Derived.Shelf.Strings.Builder2
import Derived.Shelf.Strings.OnBuilder
import Derived.Shelf.Small.Bits
import Derived.Shelf.Small.Strs
import Derived.Shelf.Utf8.RuneCount
import Derived.Shelf.Strconv.Atoi
import Derived.Shelf.Strconv.Itoa0
import Derived.Shelf.Strconv.Itoa1
import Derived.Shelf.LaysM
import Derived.Shelf.Strconv.Itoa2
import Derived.Shelf.Strconv.Itoa3
import Derived.Shelf.Strconv.AtoiErrFast
import Derived.Shelf.Strconv.ParseIntEmpty
import Derived.Shelf.Strconv.AtoiFail
import Derived.Shelf.Strconv.Clone
import Derived.Shelf.Strconv.SyntaxError
import Derived.Shelf.LaysC
import Derived.Shelf.Strconv.ToError
import Derived.Shelf.Strconv.Lower
import Derived.Shelf.Strconv.ParseUint10
import Derived.Shelf.Strconv.ParseUint10Empty
import Derived.Shelf.Strconv.ParseUint10Any
import Derived.Shelf.Strconv.ParseInt10
import Derived.Shelf.Strconv.AtoiLong
import Derived.Shelf.Strconv.AtoiInnerAll
import Derived.Shelf.Strconv.RangeError
import Derived.Shelf.Strconv.ToErrorRange
import Derived.Shelf.Strconv.AtoiAll
import Derived.Shelf.Strconv.ErrVarAll
import Derived.Shelf.Strings.Search1
import Derived.Shelf.Strings.Search2
import Derived.Shelf.Strings.Search3
import Derived.Shelf.Strings.Cut
import Derived.Shelf.Strings.Count
import Derived.Shelf.Strings.Shaped
import Derived.Shelf.Strings.Split
import Derived.Shelf.Strings.SplitShaped
import Derived.Shelf.Unicode.Decode
import Derived.Shelf.Strings.RuneCount
import Derived.Shelf.Strings.Explode
import Derived.Shelf.Unicode.DecodeSlow
import Derived.Shelf.Unicode.DecodeAny
import Derived.Shelf.SlSorted.Search
namespace Go.Proofs.YtknegckgmklnhaaGreatDoor
open Go Go.CP
set_option maxRecDepth 100000
def qd (x1 x2 x5:LV) (R:LV.RT) (st:aa):Prop:=LTg Tryz.prog (kindOf false) [.tmp 4] (cw Tryz.f112 3) [] R (.aJ::x1::x2::.aJ::.aJ::x5::(LV.jk 20 [])) st
def zB:List Nat:=(LV.gx 0 26 [1,2,5])
def Cj (a0 a1:LV) (R:LV.RT) (st:aa):Prop:=
 bd2 (cn st a0) fun v0 eQ=>qd a1 v0 (i64 0) R eQ
theorem CZ (a0 a1:LV) {R:LV.RT} {st:aa} (h:Cj a0 a1 R st):LZ 112 [a0,a1] st R:=
 cz zB [] [.tmp 4] Tryz.func112 h
def qe (x1 x2 x5:LV) (R:LV.RT) (st:aa):Prop:=
 bd (al 5 x2) fun v0=>bd (ld1 st v0) fun v1=>bd (bj v1) fun v2=>bd (aI BinOp.lss x5 v2) fun v3=>aG v3
 (bd (al 0 x2) fun v4=>bd (ld1 st v4) fun v5=>bd (aI BinOp.eql v5 (i64 7)) fun v6=>aG v6
 (bd (al 6 x2) fun v7=>bd (ld1 st v7) fun v8=>bd (bo 1 v8 x5) fun v9=>bd (ld1 st v9) fun eQ=>bd (mj BinOp.eql eQ x1) fun gE=>aG gE (R x5 st) (bd (aI BinOp.add x5 (i64 1)) fun gT=>qd x1 x2 gT R st))
 (R (i64 (-1)) st))
 (R (i64 (-1)) st)
theorem tA (x1 x2 x5:LV) {R:LV.RT} {st:aa} (h:qe x1 x2 x5 R st):qd x1 x2 x5 R st:=
 pz zB [] h
def zC (x2 x3 x5 x6 x7 x8 x9 x10 x11 x12 x13 x14 x15:LV) (R:LV.RT) (st:aa):Prop:=LTg Tryz.prog (kindOf false) [.tmp 4] (cw Tryz.f31 5) [] R (.aJ::.aJ::x2::x3::.aJ::x5::x6::x7::x8::x9::x10::x11::x12::x13::x14::x15::(LV.jk 179 [])) st
def fj (x2 x3 x7 x9 x10 x14 x15 x110:LV) (R:LV.RT) (st:aa):Prop:=LTg Tryz.prog (kindOf false) [.tmp 4] (cw Tryz.f31 6) [] R (.aJ::.aJ::x2::x3::(LV.jk 3 (x7::.aJ::x9::x10::(LV.jk 3 (x14::x15::(LV.jk 94 (x110::(LV.jk 84 [])))))))) st
def eG (x2 x3 x14 x15 x16 x17:LV) (R:LV.RT) (st:aa):Prop:=LTg Tryz.prog (kindOf false) [.tmp 4] (cw Tryz.f31 13) [] R (.aJ::.aJ::x2::x3::(LV.jk 10 (x14::x15::x16::x17::(LV.jk 177 [])))) st
def qf (x2 x3 x14 x15 x16 x17 x18 x19:LV) (R:LV.RT) (st:aa):Prop:=LTg Tryz.prog (kindOf false) [.tmp 4] (cw Tryz.f31 17) [] R (.aJ::.aJ::x2::x3::(LV.jk 10 (x14::x15::x16::x17::x18::x19::(LV.jk 175 [])))) st
def xH:List Nat:=(LV.gx 0 195 [2,3,14,15,16,17])
def xI:List (Nat × List Nat):=[(5,(LV.gx 0 195 [2,3,5,6,7,8,9,10,11,12,13,14,15])),(6,(LV.gx 0 195 [2,3,7,9,10,14,15,110])),(15,(LV.gx 0 195 [2,3,14,15,16,17,18,19]))]
def w31 (a0 a1:LV) (R:LV.RT) (st:aa):Prop:=
 bd2 (cn st a0) fun v0 rW=>bd2 (cn rW a1) fun v2 iS=>bd (ldA iS v0 1) fun v4=>LZ 97 [v4] iS fun v5 mK=>bd (af v5 0) fun v7=>bd (af v5 1) fun v8=>bd (ldA mK v0 1) fun v9=>LZ 98 [v9] mK fun nE gE=>bd (af nE 0) fun aC=>bd (af nE 1) fun aS=>bd (ldA gE v0 1) fun aT=>LZ 99 [aT] gE fun iF gT=>bd (af iF 0) fun bY=>bd (af iF 1) fun c7=>bd (af iF 2) fun c8=>bd (ldA gT v0 1) fun dO=>LZ 100 [dO] gT fun oF eQ=>bd (af oF 0) fun lE=>bd (af oF 1) fun lT=>bd (ldA eQ v0 1) fun p7=>bd (ldA eQ v0 1) fun oR=>LZ 101 [p7] eQ fun p8 iD=>ldA iD v0 1=some oR∧LZ 49 [oR] iD fun p9 iN=>zC v0 v2 v7 v8 aC aS bY c7 c8 lE lT p8 p9 R iN
theorem c31 (a0 a1:LV) {R:LV.RT} {st:aa} (h:w31 a0 a1 R st):LZ 31 [a0,a1] st R:=
 cz xH xI [.tmp 4] Tryz.func31 h
def zD (x2 x3 x5 x6 x7 x8 x9 x10 x11 x12 x13 x14 x15:LV) (R:LV.RT) (st:aa):Prop:=
 bd (ldA st x2 1) fun v0=>bd (al 0 x3) fun v1=>bd (ld1 st v1) fun v2=>LZ 46 [v0] st fun v3 eQ=>ld1 eQ v1=some v2∧
 bd (aI BinOp.neq v3 v2) fun v5=>aG v5 (fj x2 x3 x7 x9 x10 x14 x15 (LV.bool true) R eQ)
 (bd (al 0 x3) fun v6=>bd (ld1 eQ v6) fun v7=>bd (aI BinOp.eql v7 (i64 2)) fun v8=>bd (jG BinOp.neq x6 v8) fun v9=>aG v9 (fj x2 x3 x7 x9 x10 x14 x15 (LV.bool true) R eQ)
 (bd (al 0 x3) fun gE=>bd (ld1 eQ gE) fun gT=>bd (aI BinOp.eql gT (i64 3)) fun iD=>bd (jG BinOp.neq x8 iD) fun iF=>aG iF (fj x2 x3 x7 x9 x10 x14 x15 (LV.bool true) R eQ)
 (bd (al 0 x3) fun iN=>bd (ld1 eQ iN) fun iS=>bd (aI BinOp.eql iS (i64 4)) fun mK=>bd (jG BinOp.neq x11 mK) fun nE=>aG nE (fj x2 x3 x7 x9 x10 x14 x15 (LV.bool true) R eQ)
 (bd (al 0 x3) fun oF=>bd (ld1 eQ oF) fun oR=>bd (aI BinOp.eql oR (i64 5)) fun rW=>bd (jG BinOp.neq x13 rW) fun aC=>aG aC (fj x2 x3 x7 x9 x10 x14 x15 (LV.bool true) R eQ)
 (bd (al 0 x3) fun aS=>bd (ld1 eQ aS) fun aT=>bd (aI BinOp.eql aT (i64 2)) fun bY=>aG bY
 (bd (al 1 x3) fun c7=>bd (ld1 eQ c7) fun c8=>bd (jG BinOp.neq x5 c8) fun dO=>aG dO (fj x2 x3 x7 x9 x10 x14 x15 (LV.bool true) R eQ)
 (bd (al 4 x3) fun lE=>bd (ld1 eQ lE) fun lT=>bd (mj BinOp.neq x12 lT) fun p7=>aG p7 (fj x2 x3 x7 x9 x10 x14 x15 (LV.bool true) R eQ)
 (bd (bj x14) fun p8=>bd (al 5 x3) fun p9=>bd (ld1 eQ p9) fun tO=>bd (bj tO) fun v34=>bd (aI BinOp.neq p8 v34) fun v35=>aG v35 (fj x2 x3 x7 x9 x10 x14 x15 (LV.bool true) R eQ)
 (bd (bj x15) fun v36=>bd (al 6 x3) fun v37=>bd (ld1 eQ v37) fun v38=>bd (bj v38) fun v39=>bd (aI BinOp.neq v36 v39) fun v40=>fj x2 x3 x7 x9 x10 x14 x15 v40 R eQ))))
 (bd (jG BinOp.neq x5 (LV.bool false)) fun v41=>aG v41 (fj x2 x3 x7 x9 x10 x14 x15 (LV.bool true) R eQ)
 (bd (al 4 x3) fun v42=>bd (ld1 eQ v42) fun v43=>bd (mj BinOp.neq x12 v43) fun v44=>aG v44 (fj x2 x3 x7 x9 x10 x14 x15 (LV.bool true) R eQ)
 (bd (bj x14) fun v45=>bd (al 5 x3) fun v46=>bd (ld1 eQ v46) fun v47=>bd (bj v47) fun v48=>bd (aI BinOp.neq v45 v48) fun v49=>aG v49 (fj x2 x3 x7 x9 x10 x14 x15 (LV.bool true) R eQ)
 (bd (bj x15) fun v50=>bd (al 6 x3) fun v51=>bd (ld1 eQ v51) fun v52=>bd (bj v52) fun v53=>bd (aI BinOp.neq v50 v53) fun v54=>fj x2 x3 x7 x9 x10 x14 x15 v54 R eQ)))))))))
theorem Ck (x2 x3 x5 x6 x7 x8 x9 x10 x11 x12 x13 x14 x15:LV) {R:LV.RT} {st:aa} (h:zD x2 x3 x5 x6 x7 x8 x9 x10 x11 x12 x13 x14 x15 R st):zC x2 x3 x5 x6 x7 x8 x9 x10 x11 x12 x13 x14 x15 R st:=
 pz xH xI h
def zE (x2 x3 x7 x9 x10 x14 x15 x110:LV) (R:LV.RT) (st:aa):Prop:=
 aG x110 (R (i64 1) st)
 (bd (al 0 x3) fun v0=>bd (ld1 st v0) fun v1=>bd (aI BinOp.eql v1 (i64 3)) fun v2=>aG v2
 (bd (al 2 x3) fun v3=>bd (ld1 st v3) fun v4=>bd (aI BinOp.neq x7 v4) fun v5=>aG v5 (R (i64 1) st)
 (bd (al 0 x3) fun v6=>bd (ld1 st v6) fun v7=>bd (aI BinOp.eql v7 (i64 4)) fun v8=>aG v8
 (bd (al 2 x3) fun v9=>bd (ld1 st v9) fun eQ=>bd (aI BinOp.neq x9 eQ) fun gE=>aG gE (R (i64 1) st)
 (bd (al 3 x3) fun gT=>bd (ld1 st gT) fun iD=>bd (aI BinOp.neq x10 iD) fun iF=>aG iF (R (i64 1) st) (eG x2 x3 x14 x15 (i64 0) (i64 0) R st)))
 (eG x2 x3 x14 x15 (i64 0) (i64 0) R st)))
 (bd (al 0 x3) fun iN=>bd (ld1 st iN) fun iS=>bd (aI BinOp.eql iS (i64 4)) fun mK=>aG mK
 (bd (al 2 x3) fun nE=>bd (ld1 st nE) fun oF=>bd (aI BinOp.neq x9 oF) fun oR=>aG oR (R (i64 1) st)
 (bd (al 3 x3) fun rW=>bd (ld1 st rW) fun aC=>bd (aI BinOp.neq x10 aC) fun aS=>aG aS (R (i64 1) st) (eG x2 x3 x14 x15 (i64 0) (i64 0) R st)))
 (eG x2 x3 x14 x15 (i64 0) (i64 0) R st)))
theorem Cl (x2 x3 x7 x9 x10 x14 x15 x110:LV) {R:LV.RT} {st:aa} (h:zE x2 x3 x7 x9 x10 x14 x15 x110 R st):fj x2 x3 x7 x9 x10 x14 x15 x110 R st:=
 pz xH xI h
def tB (x2 x3 x14 x15 x16 x17:LV) (R:LV.RT) (st:aa):Prop:=
 bd (bj x14) fun v0=>bd (aI BinOp.lss x17 v0) fun v1=>aG v1
 (bd (al 0 x3) fun v2=>bd (ld1 st v2) fun v3=>bd (aI BinOp.eql v3 (i64 7)) fun v4=>aG v4
 (bd (ldA st x2 1) fun v5=>bd (al 6 x3) fun v6=>bd (ld1 st v6) fun v7=>bd (bo 1 v7 x17) fun v8=>bd (ld1 st v8) fun v9=>(nw st [LV.nili] fun mK eQ=>ld1 eQ v8=some v9∧
 ld1 eQ v6=some v7∧
 ldA eQ x2 1=some v5∧
 LZ 50 [v5,v9] eQ fun nE gT=>bd (af nE 0) fun rW=>bd (af nE 1) fun aC=>bd2 (lmk (stV gT 1 mK rW)) fun _ iD=>qf x2 x3 x14 x15 x16 x17 mK aC R iD)∧
 LZ 50 [v5,v9] st fun oF iF=>bd (af oF 0) fun aS=>bd (af oF 1) fun aT=>nw iF [LV.nili] fun oR gE=>ld1 gE v8=some v9∧ld1 gE v6=some v7∧ldA gE x2 1=some v5∧bd2 (lmk (stV gE 1 oR aS)) fun _ iN=>qf x2 x3 x14 x15 x16 x17 oR aT R iN)
 (bd (bo 1 x14 x17) fun bY=>bd (ldA st bY 1) fun c7=>bd (al 5 x3) fun c8=>bd (ld1 st c8) fun dO=>bd (bo 7 dO x17) fun lE=>bd (ldA st lE 7) fun lT=>LZ 31 [c7,lT] st fun p7 iS=>bd (aI BinOp.add x16 p7) fun p8=>bd (aI BinOp.add x17 (i64 1)) fun p9=>eG x2 x3 x14 x15 p8 p9 R iS))
 (R x16 st)
theorem xJ (x2 x3 x14 x15 x16 x17:LV) {R:LV.RT} {st:aa} (h:tB x2 x3 x14 x15 x16 x17 R st):eG x2 x3 x14 x15 x16 x17 R st:=
 pz xH xI h
def xK (x2 x3 x14 x15 x16 x17 x18 x19:LV) (R:LV.RT) (st:aa):Prop:=
 bd (bo 1 x15 x17) fun v0=>bd (ld1 st v0) fun v1=>bd (al 6 x3) fun v2=>bd (ld1 st v2) fun v3=>bd (bo 1 v3 x17) fun v4=>bd (ld1 st v4) fun v5=>bd (mj BinOp.neq v1 v5) fun v6=>aG v6
 (bd (aI BinOp.add x16 (i64 1)) fun v7=>bd (bo 1 x14 x17) fun v8=>bd (ldA st v8 1) fun v9=>bd (al 5 x3) fun iN=>bd (ld1 st iN) fun iS=>bd (bo 7 iS x17) fun mK=>bd (ldA st mK 7) fun nE=>LZ 31 [v9,nE] st fun oF gE=>bd (aI BinOp.add v7 oF) fun oR=>bd (aI BinOp.add x17 (i64 1)) fun rW=>eG x2 x3 x14 x15 oR rW R gE)
 (bd (lun UnOp.not x19) fun aC=>aG aC
 (bd (aI BinOp.add x16 (i64 1)) fun aS=>bd (bo 1 x14 x17) fun aT=>bd (ldA st aT 1) fun bY=>bd (al 5 x3) fun c7=>bd (ld1 st c7) fun c8=>bd (bo 7 c8 x17) fun dO=>bd (ldA st dO 7) fun lE=>LZ 31 [bY,lE] st fun lT gT=>bd (aI BinOp.add aS lT) fun p7=>bd (aI BinOp.add x17 (i64 1)) fun p8=>eG x2 x3 x14 x15 p7 p8 R gT)
 (bd (ldA st x18 1) fun p9=>bd (al 5 x3) fun tO=>bd (ld1 st tO) fun v32=>bd (bo 7 v32 x17) fun v33=>bd (ldA st v33 7) fun v34=>LZ 31 [p9,v34] st fun v35 eQ=>bd (aI BinOp.gtr v35 (i64 0)) fun v37=>aG v37
 (bd (aI BinOp.add x16 (i64 1)) fun v38=>bd (bo 1 x14 x17) fun v39=>bd (ldA eQ v39 1) fun v40=>bd (al 5 x3) fun v41=>bd (ld1 eQ v41) fun v42=>bd (bo 7 v42 x17) fun v43=>bd (ldA eQ v43 7) fun v44=>LZ 31 [v40,v44] eQ fun v45 iD=>bd (aI BinOp.add v38 v45) fun v47=>bd (aI BinOp.add x17 (i64 1)) fun v48=>eG x2 x3 x14 x15 v47 v48 R iD)
 (bd (bo 1 x14 x17) fun v49=>bd (ldA eQ v49 1) fun v50=>bd (al 5 x3) fun v51=>bd (ld1 eQ v51) fun v52=>bd (bo 7 v52 x17) fun v53=>bd (ldA eQ v53 7) fun v54=>LZ 31 [v50,v54] eQ fun v55 iF=>bd (aI BinOp.add x16 v55) fun v57=>bd (aI BinOp.add x17 (i64 1)) fun v58=>eG x2 x3 x14 x15 v57 v58 R iF)))
theorem A9 (x2 x3 x14 x15 x16 x17 x18 x19:LV) {R:LV.RT} {st:aa} (h:xK x2 x3 x14 x15 x16 x17 x18 x19 R st):qf x2 x3 x14 x15 x16 x17 x18 x19 R st:=
 pz xH xI h
end Go.Proofs.YtknegckgmklnhaaGreatDoor
namespace Go.CP
abbrev Tx:=List UInt8
inductive KT where
 | mk (f:Nat) (l:List KT) (ns:List Tx) (ls:List Bool)
namespace KT
def f:KT→Nat|mk f _ _ _=>f
def l:KT→List KT|mk _ l _ _=>l
def ns:KT→List Tx|mk _ _ ns _=>ns
def ls:KT→List Bool|mk _ _ _ ls=>ls
end KT
def Ba:List Tx:=[[97,110,121],[98,111,111,108],[105,110,116],[112,111,105,110,116],[116,101,120,116],[108,105,115,116],[109,97,112]]
def isLet (c:UInt8):Bool:=decide (97≤c.toNat∧c.toNat≤122)
def C0 (c:UInt8):Bool:=isLet c||decide (48≤c.toNat∧c.toNat≤57)
def C1:Tx→Tx
 | []=>[]
 | c::s=>if isLet c then c::s.takeWhile C0 else []
def named (s:Tx):Bool:=decide (C1 s=s)&&decide (s≠[])&&decide (s.length≤20)
def xL:List Tx→Tx
 | []=>[]
 | [a]=>a
 | a::b::l=>a++44::xL (b::l)
def Bb (n:Tx) (l:Bool) (t:Tx):Tx:=n++((if l then [63,58] else [58])++t)
def uV:List Tx→List Bool→List Tx→List Tx
 | n::ns,l::ls,t::ts=>Bb n l t::uV ns ls ts
 | _,_,ts=>ts
def Cm (f:Nat) (ts:List Tx) (ns:List Tx) (ls:List Bool):Tx:=
 if f=5 then [108,105,115,116,40]++(ts.getD 0 []++[41])
 else if f=6 then [109,97,112,40]++(ts.getD 0 []++[41])
 else if f=7 then 91::(xL ts++[93])
 else if f=8 then 123::(xL (uV ns ls ts)++[125])
 else Ba.getD f []
mutual
def kpr:KT→Tx
 | .mk f l ns ls=>Cm f (Cn l) ns ls
def Cn:List KT→List Tx
 | []=>[]
 | t::ts=>kpr t::Cn ts
end
mutual
def KT.wf:Nat→KT→Prop
 | 0,_=>False
 | d+1,.mk f l ns ls=>f≤8∧(f<5→l=[])∧(f=5∨f=6→l.length=1)∧(f<8→ns=[]∧ls=[])∧(f=8→ns.length=l.length∧ls.length=l.length)∧l.length≤16∧ns.Pairwise ltB∧(∀ n ∈ ns,named n=true)∧KT.wfs d l
def KT.wfs:Nat→List KT→Prop
 | _,[]=>True
 | d,t::ts=>KT.wf d t∧KT.wfs d ts
end
end Go.CP
namespace Go.Proofs.YtknegckgmklnhaaGreatDoor
open Go Go.CP
set_option maxRecDepth 100000
abbrev rdC (s:Tx) (a:Nat) (e:Int) (d:Nat):List LV:=[.str s,i64 a,i64 e,i64 d]
abbrev rdO (s:Tx) (a:Nat) (e:Int) (d:Nat):ah:=.cells .rw (rdC s a e d)
def Rd (st:aa) (o:Nat) (s:Tx) (a:Nat) (e:Int) (d:Nat):Prop:=st[o]?=some (rdO s a e d)
section
variable {st st':aa} {o:Nat} {s:Tx} {a d n:Nat} {e:Int} {R:LV→aa→Prop}
theorem Rd.lt (h:Rd st o s a e d):o<st.length:=bR h
theorem Rd.l1 (h:Rd st o s a e d):ld1 st (.ptr o 1)=some (i64 a):=by rw[ck h];rfl
theorem Rd.l3 (h:Rd st o s a e d):ld1 st (.ptr o 3)=some (i64 d):=by rw[ck h];rfl
theorem Rd.s1 (h:Rd st o s a e d) (n:Nat):stV st 1 (.ptr o 1) (i64 n)=some (st.set o (rdO s n e d)):=by rw[ia h (by simp) rfl];rfl
theorem Rd.s2 (h:Rd st o s a e d) (n:Int):stV st 1 (.ptr o 2) (i64 n)=some (st.set o (rdO s a n d)):=by rw[ia h (by simp) rfl];rfl
theorem Rd.s3 (h:Rd st o s a e d) (n:Nat):stV st 1 (.ptr o 3) (i64 n)=some (st.set o (rdO s a e n)):=by rw[ia h (by simp) rfl];rfl
theorem Rd.set (h:Rd st o s a e d) {s':Tx} {a' d':Nat} {e':Int}:Rd (st.set o (rdO s' a' e' d')) o s' a' e' d':=bQ h
theorem Rd.app {y:ah} (h:Rd st o s a e d):Rd (st++[y]) o s a e d:=cb h
theorem Rd.fr {S:Nat→Prop} (h:Rd st o s a e d) (hf:Fr st st' S) (hs:¬ S o):Rd st' o s a e d:=hf.get h hs
theorem Rd.id (h:Rd st o s a e d):st.set o (rdO s a e d)=st:=by
 apply List.ext_getElem?
 intro j
 by_cases hj:j=o
 ·subst hj;rw[List.getElem?_set_self h.lt,h]
 ·rw[List.getElem?_set_ne (Ne.symm hj)]
end
section
variable {st st':aa} {o:Nat} {s:Tx} {a d n:Nat} {e:Int} {R:LV→aa→Prop}
structure SlT (st:aa) (A:LV) (ws:List Tx):Prop where
 len:bj A=some (i64 ws.length)
 ix:∀ i:Nat,i<ws.length→∃ p,bo 1 A (i64 i)=some p∧ld1 st p=(ws[i]?).map .str
end
mutual
def kC:KT→List LV
 | .mk f l ns ls=>[i64 f,.isl (kVs l) l.length none,.isl (ns.map .str) ns.length none,.isl (ls.map .bool) ls.length none]
def kVs:List KT→List LV
 | []=>[]
 | t::ts=>.iptr (kC t) 0::kVs ts
end
abbrev kV (t:KT):LV:=.iptr (kC t) 0
mutual
theorem rZ:∀ {t:KT},LV.au (kC t)=true
 | .mk f l ns ls=>by
  simp only[kC,LV.au,LV.plain,Bool.true_and,Bool.and_true,aK]
  exact ⟨oU,bF fun _ _=>rfl,bF fun _ _=>rfl⟩
theorem oU:∀ {l:List KT},LV.au (kVs l)=true
 | []=>rfl
 | t::ts=>by simp only[kVs,LV.au,LV.plain,aK];exact ⟨rZ,oU⟩
end
theorem xM {t:KT}:(kV t).plain=true:=by simp only[LV.plain];exact rZ
section
variable {st st' st0:aa} {o b:Nat} {s:Tx} {a d D n:Nat} {e:Int} {R:LV→aa→Prop}
structure TIn (st0:aa) (o b:Nat) (st:aa) (f:Option Nat) (acc:List LV):Prop where
 fr:Fr st0 st (fun j=>j=o)
 nb:st0.length≤b
 hb:st[b]?=some (.cells .rw [i64 7,osl f 1 acc.length,.nils,.nils])
 own:bH .rw st f 1 acc.length acc
 nf:∀ j,f=some j→st0.length≤j∧j≠b
 pl:LV.au acc=true
def TQ (st0:aa) (o:Nat) (R:LV→aa→Prop) (r:LV) (st':aa):Prop:=
 ∃ v y,Fr st0 st' (fun j=>j=o)∧st'[o]?=some y∧y.lt st0.length=true∧dp (iw st0.length st') v r∧v.plain=true∧R v (st0.set o y)
theorem xN:(rdO s a e D).lt n=true:=rfl
theorem TIn.fin {f:Option Nat} {acc:List LV} (h:TIn st0 o b st f acc) (hr:Rd st o s a e D) (hR:R (.iptr [i64 7,.isl acc acc.length none,.isl [] 0 none,.isl [] 0 none] 0) (st0.set o (rdO s a e D))):TQ st0 o R (.ptr b 0) st:=by
 refine ⟨_,_,h.fr,hr,xN,?_,by simp[LV.plain,LV.au,h.pl],hR⟩
 refine .inl ⟨b,.rw,_,rfl,(mG h.nb).trans h.hb,rfl,by simp,?_⟩
 simp only[bg,bu,List.take_succ_cons,List.take_zero]
 exact ⟨_,_,rfl,rfl,_,_,rfl,eY (h.own.iw fun j e=>(h.nf j e).1) rfl (bq _ h.pl),_,_,rfl,.inr (.inr ⟨.inr rfl,rfl,rfl⟩),_,_,rfl,.inr (.inr ⟨.inr rfl,rfl,rfl⟩),rfl⟩
end
section
variable {st st' st0:aa} {o b:Nat} {s:Tx} {a d D n:Nat} {e:Int} {R:LV→aa→Prop}
structure Two (st st3:aa) (fn fb fn2 fb2:Option Nat) (A B:List LV):Prop where
 fr:Fr st st3 (fun j=>fn=some j∨fb=some j)
 oA:bH .rw st3 fn2 1 A.length A
 oB:bH .rw st3 fb2 1 B.length B
 gA:∀ j,fn2=some j→fn=some j∨st.length≤j
 gB:∀ j,fb2=some j→fb=some j∨st.length≤j
 ne:∀ j,fn2=some j→fb2≠some j
end
structure OIn (st0:aa) (o b:Nat) (st:aa) (fl fn fb:Option Nat) (L:List LV) (ns:List Tx) (ls:List Bool):Prop where
 fr:Fr st0 st (fun j=>j=o)
 nb:st0.length≤b
 hb:st[b]?=some (.cells .rw [i64 8,osl fl 1 L.length,osl fn 1 (ns.map LV.str).length,osl fb 1 (ls.map LV.bool).length])
 ol:bH .rw st fl 1 L.length L
 on:bH .rw st fn 1 (ns.map LV.str).length (ns.map .str)
 ob:bH .rw st fb 1 (ls.map LV.bool).length (ls.map .bool)
 gl:∀ j,fl=some j→st0.length≤j∧j≠b
 gn:∀ j,fn=some j→st0.length≤j∧j≠b
 gb:∀ j,fb=some j→st0.length≤j∧j≠b
 d1:∀ j,fl=some j→fn≠some j∧fb≠some j
 d2:∀ j,fn=some j→fb≠some j
 pl:LV.au L=true
section
variable {st st' st0:aa} {o b:Nat} {s:Tx} {a d D n:Nat} {e:Int} {R:LV→aa→Prop} {fl fn fb:Option Nat} {L:List LV} {ns:List Tx} {ls:List Bool}
end
section
variable {st st' st0:aa} {o b:Nat} {s:Tx} {a d D n:Nat} {e:Int} {R:LV→aa→Prop} {fl fn fb:Option Nat} {L:List LV} {ns:List Tx} {ls:List Bool}
def C2 (st0:aa) (o b:Nat) (s:Tx) (D:Nat) (R:LV→aa→Prop) (L:List LV) (ns:List Tx) (ls:List Bool):Prop:=
 ∀ st2 fl2 fn2 fb2 v w g a' e',e'≠0→a'≤s.length→OIn st0 o b st2 fl2 fn2 fb2 (L++[v]) (ns++[w]) (ls++[g])→Rd st2 o s a' e' D→R (.tup []) st2
section
variable (ho:o<st0.length) (ha:a≤s.length) (hl:L.length<2 ^ 20) (hln:ns.length<2 ^ 20) (hlb:ls.length<2 ^ 20) (h:OIn st0 o b st fl fn fb L ns ls) (hr:Rd st o s a e D) (hB:C2 st0 o b s D R L ns ls)
include ho ha hl hln hlb h hr hB
end
end
section
variable {st st' st0:aa} {o b:Nat} {s:Tx} {a d D n:Nat} {e:Int} {R:LV→aa→Prop} {fl fn fb:Option Nat} {L:List LV} {ns:List Tx} {ls:List Bool}
theorem OIn.fin (h:OIn st0 o b st fl fn fb L ns ls) (hr:Rd st o s a e D) (hR:R (.iptr [i64 8,.isl L L.length none,.isl (ns.map .str) (ns.map LV.str).length none,.isl (ls.map .bool) (ls.map LV.bool).length none] 0) (st0.set o (rdO s a e D))):TQ st0 o R (.ptr b 0) st:=by
 have p1:LV.au (ns.map LV.str)=true:=bF fun _ _=>rfl
 have p2:LV.au (ls.map LV.bool)=true:=bF fun _ _=>rfl
 refine ⟨_,_,h.fr,hr,xN,?_,by simp[LV.plain,LV.au,h.pl,p1,p2],hR⟩
 refine .inl ⟨b,.rw,_,rfl,(mG h.nb).trans h.hb,rfl,by simp,?_⟩
 simp only[bg,bu,List.take_succ_cons,List.take_zero]
 exact ⟨_,_,rfl,rfl,_,_,rfl,eY (h.ol.iw fun j e=>(h.gl j e).1) rfl (bq _ h.pl),_,_,rfl,eY (h.on.iw fun j e=>(h.gn j e).1) rfl (bq _ p1),_,_,rfl,eY (h.ob.iw fun j e=>(h.gb j e).1) rfl (bq _ p2),rfl⟩
end
end Go.Proofs.YtknegckgmklnhaaGreatDoor
namespace Go.CP
def mu (k:Tx):List Tx→Nat→Option Nat
 | [],_=>none
 | n::ns,i=>if n=k then some i else mu k ns (i+1)
structure AT where
 nm:Tx
 ty:KT
 must:Bool
 own:Bool
 hide:Bool
 new:Bool
structure ST where
 ver:Int
 l:List AT
def Co (v:T) (k:Tx):T:=(v.at k).getD .null
structure ST.ok (s:ST):Prop where
 ver:0≤s.ver∧s.ver≤1000
 len:s.l.length≤16
 rise:(s.l.map (·.nm)).Pairwise ltB
 nm:∀ a ∈ s.l,named a.nm=true
 ty:∀ a ∈ s.l,a.ty.wf 8
 mo:∀ a ∈ s.l,(a.must&&a.own)=false
theorem ag.Cp {P:Program} {f:FuncId} {xs:List LV} {st:aa} {R:LV→aa→Prop} (h:ag P f xs [] fun r s=>∃ v,dp s v r∧v.plain=true∧R v st) (hx:LV.au xs=true):ag P f xs st R:=by
 have go:∀ {w0:World} {β:Lay} {w w':World} {u:Value} {β':Lay} {r v:LV} {st':aa},Rel w0 β st w→dp st' v r→v.plain=true→Rp β' r u→Rel w β' st' w'→(β.bare w.heap.size).le β'→
   ∃ β2,Rp β2 v u∧Rel w0 β2 st w'∧β.le β2:=by
  intro w0 β w w' u β' r v st' h1 hd hv hr hrel hle
  have e:=wD hrel hle fun _=>rfl
  obtain ⟨k1,k2⟩:=h1.behind hrel.below e (ra hrel)
  exact ⟨_,Rp.cI (β:=β'.frz st' w') (β':=β.fz (β'.frz st' w')) (fun _ _ e=>e) hv (jY hrel hd hr),k1,k2⟩
 rcases h with h|h
 ·refine .inl ⟨h.1,fun w0 β w vs h1 h2=>?_⟩
  refine (h.2 w _ w vs h1.bare (Rps.cI (β:=β) (β':=β.bare w.heap.size) (fun _ _ e=>e) hx h2)).mono ?_
  rintro e w' ⟨β',r,st',u,⟨v,hd,hv,hR⟩,rfl,h4,h5,h6⟩
  obtain ⟨β2,k1,k2,k3⟩:=go h1 hd hv h4 h5 h6
  exact ⟨β2,v,st,u,hR,rfl,k1,k2,k3⟩
 ·refine .inr fun w0 β w vs h1 h2=>?_
  obtain ⟨u,w',h3,β',r,st',⟨v,hd,hv,hR⟩,h5,h6,h7⟩:=h w _ w vs h1.bare (Rps.cI (β:=β) (β':=β.bare w.heap.size) (fun _ _ e=>e) hx h2)
  obtain ⟨β2,k1,k2,k3⟩:=go h1 hd hv h5 h6 h7
  exact ⟨u,w',h3,β2,v,st,hR,k1,k2,k3⟩
structure Pb (P:Program) (f:FuncId) (xs:List LV) (Q:LV→Prop):Prop where
 call:∀ {st:aa} {R:LV→aa→Prop},(∀ v,Q v→R v st)→ag P f xs st R
def Dp (Q:LV→Prop) (r:LV) (s:aa):Prop:=∃ v,dp s v r∧v.plain=true∧Q v
theorem Pb.of {P:Program} {f:FuncId} {xs:List LV} {Q:LV→Prop} (h:ag P f xs [] (Dp Q)) (hx:LV.au xs=true):Pb P f xs Q:=
 ⟨fun hR=>ag.Cp (h.mono fun _ _ ⟨v,h1,h2,h3⟩=>⟨v,h1,h2,hR v h3⟩) hx⟩
end Go.CP
namespace Go.Proofs.YtknegckgmklnhaaGreatDoor
open Go Go.CP
set_option maxRecDepth 100000
section
variable {st st':aa} {R:LV→aa→Prop}
def ixI (k:Tx) (ns:List Tx):Int:=match mu k ns 0 with
 | some i=>i
 | none=>-1
def intOf:T→Int
 | .int n=>n
 | _=>0
theorem xO (t:T):Pu Tryz.prog 98 [vT t] (.tup [i64 (intOf t),.bool (decide (t.kind=3))]):=by
 refine Pu.of (c98 _ ?_) fU rfl
 cases t<;>exact bk (v:=.tup [i64 _,.bool _]) _ rfl
end
end Go.Proofs.YtknegckgmklnhaaGreatDoor
namespace Go.Proofs.YtknegckgmklnhaaGreatDoor
open Go Go.CP Go.RowKit
set_option maxRecDepth 100000
variable {R:LV→aa→Prop} {st:aa}
abbrev Cq:ah:=.cells (.gl 3 Lib.pow10Tab.length) (Lib.pow10Tab.map fun z=>.int .u64 z)
abbrev Cr (u:TypeId):ah:=.cells (.gl 1 1) [.iface u .aJ]
abbrev Cs (u:TypeId):ah:=.cells (.gl 2 1) [.iface u .aJ]
end Go.Proofs.YtknegckgmklnhaaGreatDoor
namespace Go.Proofs.YtknegckgmklnhaaGreatDoor
open Go Go.CP
set_option maxRecDepth 100000
abbrev aX (nm:Tx) (tv:LV) (m o h n:Bool):List LV:=[.str nm,tv,.bool m,.bool o,.bool h,.bool n]
section
variable {st st':aa} {R:LV→aa→Prop}
def xP (tv:LV) (tnil:Bool):Prop:=tv=.nilp∧tnil=true∨∃ t,tv=kV t∧tnil=false
theorem xP.plain {tv:LV} {b:Bool} (h:xP tv b):tv.plain=true:=by
 rcases h with ⟨rfl,_⟩ | ⟨t,rfl,_⟩
 ·rfl
 ·exact xM
theorem xP.one {tv:LV} {b:Bool} (h:xP tv b):tv.one=true:=by
 rcases h with ⟨rfl,_⟩ | ⟨t,rfl,_⟩<;>rfl
end
structure Row where
 nm:Tx
 tv:LV
 tnil:Bool
 must:Bool
 own:Bool
 hide:Bool
 new:Bool
abbrev Row.cells (r:Row):List LV:=aX r.nm r.tv r.must r.own r.hide r.new
structure Row.ok (r:Row):Prop where
 tv:xP r.tv r.tnil
 nm:r.nm.length≤2 ^ 32
def zF:List Row→List LV
 | []=>[]
 | r::l=>r.cells++zF l
def Ct:Nat→List Tx→List (LV × LV)
 | _,[]=>[]
 | j,n::ns=>(.str n,i64 j)::Ct (j+1) ns
section
variable {st st':aa} {R:LV→aa→Prop}
end
structure GlS (st:aa):Prop where
 p:st[0]?=some Cq
 n:∃ u,st[1]?=some (Cr u)
 f:∃ u,st[2]?=some (Cs u)
section
variable {st st':aa} {R:LV→aa→Prop}
theorem GlS.fr {S:Nat→Prop} (h:GlS st) (k:Fr st st' S) (h0:¬ S 0) (h1:¬ S 1) (h2:¬ S 2):GlS st':=
 ⟨k.get h.p h0,by obtain ⟨u,e⟩:=h.n;exact ⟨u,k.get e h1⟩,by obtain ⟨u,e⟩:=h.f;exact ⟨u,k.get e h2⟩⟩
theorem GlS.len (h:GlS st):3≤st.length:=by obtain ⟨u,e⟩:=h.f;have:=bR e;omega
end
def zG (a:AT):Row:=⟨a.nm,kV a.ty,false,a.must,a.own,a.hide,a.new⟩
def atC (l:List AT):List LV:=zF (l.map zG)
section
variable {st st':aa} {R:LV→aa→Prop}
structure Sch (st:aa) (n0:Nat) (v:Int) (l:List AT) (B:Nat) (f:Option Nat) (M:Nat):Prop where
 b:st[B]?=some (.cells .rw [i64 v,osl f 6 l.length,.map M])
 o:bH .rw st f 6 l.length (atC l)
 m:st[M]?=some (.map .rw (Ct 0 ((l.map zG).map (·.nm))) (List.range l.length) l.length)
 nb:n0≤B
 nm:n0≤M
 nf:∀ o,f=some o→n0≤o
 ne:0<l.length∨f=none
 pw:(l.map (·.nm)).Pairwise ltB
end
section
variable {st st':aa} {R:LV→aa→Prop}
theorem r0 {x y:ah} (h:st[0]?=some x):(st++[y])[0]?=some x:=by rw[bD (bR h)];exact h
end
section
variable {st st':aa} {R:LV→aa→Prop}
structure Fil (st:aa) (v:T) (f8 f9:Option Nat) (n:Nat) (ks vs:List LV):Prop where
 b0:st[0]?=some (.cells .rw [lvT v])
 b1:∃ y,st[1]?=some (.cells .rw [y])
 o8:bH .rw st f8 1 n ks
 o9:bH .rw st f9 1 n vs
 n8:∀ o,f8=some o→2≤o
 n9:∀ o,f9=some o→2≤o
 ne:∀ o,f8=some o→f9≠some o
theorem Fil.app {v:T} {f8 f9:Option Nat} {n:Nat} {ks vs:List LV} {y:ah} (h:Fil st v f8 f9 n ks vs):Fil (st++[y]) v f8 f9 n ks vs:=
 ⟨r0 h.b0,by obtain ⟨z,e⟩:=h.b1;exact ⟨z,by rw[bD (bR e)];exact e⟩,h.o8.fr (Fr.app (S:=fun _=>False)) fun _ _ h=>h,h.o9.fr (Fr.app (S:=fun _=>False)) fun _ _ h=>h,h.n8,h.n9,h.ne⟩
structure Mid (st:aa) (v:T) (f8 f9:Option Nat) (n:Nat) (ks vs:List LV):Prop where
 b0:st[0]?=some (.cells .rw [lvT v])
 b1:∃ y,st[1]?=some (.cells .rw [y])
 o8:bH .rw st f8 1 (n+1) ks
 o9:bH .rw st f9 1 n vs
 n8:∀ o,f8=some o→2≤o
 n9:∀ o,f9=some o→2≤o
 ne:∀ o,f8=some o→f9≠some o
theorem Mid.app {v:T} {f8 f9:Option Nat} {n:Nat} {ks vs:List LV} {y:ah} (h:Mid st v f8 f9 n ks vs):Mid (st++[y]) v f8 f9 n ks vs:=
 ⟨r0 h.b0,by obtain ⟨z,e⟩:=h.b1;exact ⟨z,by rw[bD (bR e)];exact e⟩,h.o8.fr (Fr.app (S:=fun _=>False)) fun _ _ h=>h,h.o9.fr (Fr.app (S:=fun _=>False)) fun _ _ h=>h,h.n8,h.n9,h.ne⟩
end
mutual
def rkC:KT→List LV
 | .mk f l ns ls=>[i64 f,.isl (r5 l) l.length none,.isl (ns.map .str) ns.length none,.isl (ls.map .bool) ls.length none]
def r5:List KT→List LV
 | []=>[]
 | t::ts=>rkC t++r5 ts
end
theorem nS {t:KT}:rkC t=[i64 t.f,.isl (r5 t.l) t.l.length none,.isl (t.ns.map .str) t.ns.length none,.isl (t.ls.map .bool) t.ls.length none]:=by cases t;rfl
theorem uW {t:KT}:(rkC t).length=4:=by rw[nS];rfl
mutual
theorem oV:∀ {t:KT},LV.au (rkC t)=true
 | .mk f l ns ls=>by
  simp only[rkC,LV.au,LV.plain,Bool.true_and,Bool.and_true,aK]
  exact ⟨jE,bF fun _ _=>rfl,bF fun _ _=>rfl⟩
theorem jE:∀ {l:List KT},LV.au (r5 l)=true
 | []=>rfl
 | t::ts=>by rw[r5,jv,oV,jE];rfl
end
abbrev tE (t:KT) (a e:Int):LV:=.tup [.agg (rkC t),.agg [i64 a,i64 e]]
theorem r6 {t:KT} {a e:Int}:(tE t a e).plain=true:=by simp[LV.plain,LV.au,oV]
section
variable {st st' st0:aa} {s:Tx} {a d n:Nat} {R:LV→aa→Prop}
theorem Cu {o:Nat} {l:List LV} {x y:Int} (h:st[o]?=some (.cells .rw l)) (hl:l.length=2):stV st 2 (.ptr o 0) (.agg [i64 x,i64 y])=some (st.set o (.cells .rw [i64 x,i64 y])):=by
 have h1:=eg (k:=0) (vs:=[i64 x,i64 y]) (n:=2) h (by simp;omega) rfl rfl
 refine h1.trans ?_
 congr 3
 simp only[bz,List.take_zero,bw,av]
 rw[dy (by simp;omega),List.append_nil]
theorem Cv {o:Nat} {l:List LV} (h:st[o]?=some (.cells .rw l)) (hl:l.length=2):ldA st (.ptr o 0) 2=some (.agg l):=by
 rw[dJ h (by omega)]
 congr 2
 rw[List.drop_zero,List.take_of_length_le (by omega)]
end
end Go.Proofs.YtknegckgmklnhaaGreatDoor
