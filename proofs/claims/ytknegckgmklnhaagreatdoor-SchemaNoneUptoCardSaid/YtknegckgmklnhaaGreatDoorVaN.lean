/- Walks over the clean machine: what each function does, printed by a program of this work (cmp.py) out of the loaded functions; each is checked by the kernel. -/
import Derived.Test.YtknegckgmklnhaaGreatDoorProg
import Derived.Test.YtknegckgmklnhaaGreatDoorVaW
namespace Go.Proofs.YtknegckgmklnhaaGreatDoor
open Go Go.CP
set_option maxRecDepth 100000
/-- the place 1 of f21 -/
def P21_1 (x6 x8 x10 x11 x12 : LV) (R : LV → LState → Prop) (st : LState) : Prop := LT Tryz.prog [.tmp 2, .tmp 3, .tmp 4] (pointN Tryz.f21 1) R [.junk, .junk, .junk, .junk, .junk, .junk, x6, .junk, x8, .junk, x10, x11, x12, .junk, .junk, .junk, .junk, .junk, .junk, .junk, .junk, .junk, .junk, .junk, .junk, .junk, .junk, .junk, .junk, .junk, .junk, .junk, .junk, .junk, .junk, .junk, .junk, .junk, .junk, .junk, .junk, .junk, .junk, .junk, .junk, .junk, .junk, .junk, .junk, .junk, .junk, .junk, .junk, .junk, .junk, .junk, .junk, .junk, .junk, .junk, .junk, .junk, .junk, .junk, .junk, .junk, .junk, .junk, .junk, .junk, .junk, .junk, .junk, .junk, .junk, .junk, .junk, .junk, .junk, .junk, .junk, .junk, .junk, .junk, .junk, .junk, .junk] st
/-- the place 1 of f22 -/
def P22_1 (x3 x18 x19 x20 : LV) (R : LV → LState → Prop) (st : LState) : Prop := LT Tryz.prog [.tmp 2] (pointN Tryz.f22 1) R [.junk, .junk, .junk, x3, .junk, .junk, .junk, .junk, .junk, .junk, .junk, .junk, .junk, .junk, .junk, .junk, .junk, .junk, x18, x19, x20, .junk, .junk, .junk, .junk, .junk, .junk, .junk, .junk, .junk] st
/-- the place 1 of f41 -/
def P41_1 (x3 x25 x26 x27 : LV) (R : LV → LState → Prop) (st : LState) : Prop := LT Tryz.prog [.tmp 4, .tmp 5] (pointN Tryz.f41 1) R [.junk, .junk, .junk, x3, .junk, .junk, .junk, .junk, .junk, .junk, .junk, .junk, .junk, .junk, .junk, .junk, .junk, .junk, .junk, .junk, .junk, .junk, .junk, .junk, .junk, x25, x26, x27, .junk, .junk, .junk, .junk, .junk, .junk, .junk, .junk, .junk, .junk, .junk, .junk, .junk, .junk, .junk, .junk, .junk, .junk, .junk, .junk] st
/-- the place 1 of f42 -/
def P42_1 (x3 x4 x8 x9 x27 x28 x29 : LV) (R : LV → LState → Prop) (st : LState) : Prop := LT Tryz.prog [.cell 4 57, .tmp 5] (pointN Tryz.f42 1) R [.junk, .junk, .junk, x3, x4, .junk, .junk, .junk, x8, x9, .junk, .junk, .junk, .junk, .junk, .junk, .junk, .junk, .junk, .junk, .junk, .junk, .junk, .junk, .junk, .junk, .junk, x27, x28, x29, .junk, .junk, .junk, .junk, .junk, .junk, .junk, .junk, .junk, .junk, .junk, .junk, .junk, .junk, .junk, .junk, .junk, .junk, .junk, .junk, .junk, .junk, .junk, .junk, .junk, .junk, .junk, .junk, .junk, .junk, .junk, .junk, .junk] st
/-- the place 1 of f43 -/
def P43_1 (x3 x25 x26 x27 : LV) (R : LV → LState → Prop) (st : LState) : Prop := LT Tryz.prog [.tmp 4, .tmp 5] (pointN Tryz.f43 1) R [.junk, .junk, .junk, x3, .junk, .junk, .junk, .junk, .junk, .junk, .junk, .junk, .junk, .junk, .junk, .junk, .junk, .junk, .junk, .junk, .junk, .junk, .junk, .junk, .junk, x25, x26, x27, .junk, .junk, .junk, .junk, .junk, .junk, .junk, .junk, .junk, .junk, .junk, .junk, .junk, .junk, .junk] st

/-- flange.flangelaw08.SchemaNone -/
def w6 (a0 a1 : LV) (R : LV → LState → Prop) (st : LState) : Prop :=
  bd2 (lbox st a1) fun v0 st1 => bd (lenStr a0) fun v2 => bd (bInt BinOp.gtr v2 (LV.int IntKind.i64 60)) fun v3 => bsel v3 (LCalls Tryz.prog 17 [] st1 fun v4 st5 => R v4 st5) (bd (ldA st1 v0 7) fun v6 => LCalls Tryz.prog
  24 [v6] st1 fun v7 st8 => bd (bInt BinOp.gtr v7 (LV.int IntKind.i64 0)) fun v9 => bsel v9 (LCalls Tryz.prog 17 [] st8 fun v10 st11 => R v10 st11) (LCalls Tryz.prog 17 [] st8 fun v12 st13 => bd (lun UnOp.not v12) fun v14
  => bsel v14 (LCalls Tryz.prog 17 [] st13 fun v15 st16 => R v15 st16) (bd (ldA st13 v0 7) fun v17 => LCalls Tryz.prog 27 [v17] st13 fun v18 st19 => LCalls Tryz.prog 29 [v18] st19 fun v20 st21 => nw st21 [LV.nili] fun v22
  st23 => bd2 (lmk (stV st23 1 v22 v20)) fun _v24 st25 => LCalls Tryz.prog 39 [LV.nilp, a0] st25 fun v26 st27 => bd (lextract v26 0) fun v28 => bd (lextract v26 1) fun v29 => nw st27 [LV.str [], LV.nilp, LV.bool false,
  LV.bool false, LV.bool false, LV.bool false] fun v30 st31 => bd2 (lmk (stV st31 6 v30 v28)) fun _v32 st33 => bd (ldA st33 v22 1) fun v34 => LCalls Tryz.prog 41 [LV.nilp, v34] st33 fun v35 st36 => bd (lextract v35 0) fun
  _v37 => bd (lextract v35 1) fun v38 => bd (ldA st36 v22 1) fun v39 => LCalls Tryz.prog 42 [LV.nilp, v39] st36 fun v40 st41 => bd (lextract v40 0) fun v42 => bd (lextract v40 1) fun v43 => nw st41 [LV.nili] fun v44 st45
  => bd2 (lmk (stV st45 1 v44 v42)) fun _v46 st47 => bd (ldA st47 v22 1) fun v48 => LCalls Tryz.prog 43 [LV.nilp, v48] st47 fun v49 st50 => bd (lextract v49 0) fun _v51 => bd (lextract v49 1) fun v52 => bd2 (lmakeSl 1
  [LV.int IntKind.u8 0] st50 (LV.int IntKind.i64 1048577) (LV.int IntKind.i64 1048577)) fun v53 st54 => bd (lbytesStr st54 v53) fun v55 => LCalls Tryz.prog 21 [v55] st54 fun v56 st57 => bd (lextract v56 0) fun v58 => bd
  (lextract v56 1) fun v59 => bd (lextract v56 2) fun v60 => bd (lun UnOp.not v29) fun v61 => bsel v61 (bd (bInt BinOp.eql v38 (LV.int IntKind.i64 11)) fun v62 => bsel v62 (bd (bInt BinOp.eql v43 (LV.int IntKind.i64 11))
  fun v63 => bsel v63 (bd (bInt BinOp.eql v52 (LV.int IntKind.i64 11)) fun v64 => bsel v64 (LCalls Tryz.prog 22 [LV.nilp] st57 fun v65 st66 => bd (bStr BinOp.eql v65 (LV.str [])) fun v67 => bsel v67 (LCalls Tryz.prog 37
  [LV.nilp] st66 fun v68 st69 => bd (bInt BinOp.eql v68 (LV.int IntKind.i64 0)) fun v70 => bsel v70 (LCalls Tryz.prog 36 [LV.nilp] st69 fun v71 st72 => bd (lenSl v71) fun v73 => bd (bInt BinOp.eql v73 (LV.int IntKind.i64
  0)) fun v74 => bsel v74 (LCalls Tryz.prog 23 [LV.nilp, LV.nilp] st72 fun v75 st76 => bsel v75 (bd (eqB BinOp.eql (eqPtr true v58 LV.nilp)) fun v77 => bsel v77 (bd (bInt BinOp.eql v59 (LV.int IntKind.i64 0)) fun v78 =>
  bsel v78 (bd (bInt BinOp.eql v60 (LV.int IntKind.i64 3)) fun v79 => R v79 st76) (R (LV.bool false) st76)) (R (LV.bool false) st76)) (R (LV.bool false) st76)) (R (LV.bool false) st72)) (R (LV.bool false) st69)) (R
  (LV.bool false) st66)) (R (LV.bool false) st57)) (R (LV.bool false) st57)) (R (LV.bool false) st57)) (R (LV.bool false) st57))))
theorem w6_eq (a0 a1 : LV) (R : LV → LState → Prop) (st : LState) : levT Tryz.prog [.tmp 4] R [] [] 3000 [.code (bodyOf Tryz.f6)] ([a0, a1] ++ List.replicate (Tryz.f6.ntmps - 2) lundef) st = w6 a0 a1 R st := by kernel_rfl
theorem c6 (a0 a1 : LV) {R : LV → LState → Prop} {st : LState} (h : w6 a0 a1 R st) : LCalls Tryz.prog 6 [a0, a1] st R :=
  LCalls.of cm_mixed Tryz.func6 (show Tryz.f6.body = some (bodyOf Tryz.f6) by kernel_rfl) (by kernel_rfl) (show Tryz.f6.results.toList = [.tmp 4] by kernel_rfl) (levT_sound cm_mixed 3000 (Eq.mpr (w6_eq a0 a1 R st) h))

/-- (*flange.schema.Schema).Find -/
def w39 (a0 a1 : LV) (R : LV → LState → Prop) (st : LState) : Prop :=
  nw st [LV.str [], LV.nilp, LV.bool false, LV.bool false, LV.bool false, LV.bool false] fun v0 st1 => bd (eqB BinOp.eql (eqPtr true a0 LV.nilp)) fun v2 => bsel v2 (bd (mkAgg (lfill (placesL [(0, 1), (1, 1), (2, 1), (3,
  1), (4, 1), (5, 1)]) [LV.str [], LV.nilp, LV.bool false, LV.bool false, LV.bool false, LV.bool false] [])) fun v3 => bd2 (lmk (stV st1 6 v0 v3)) fun _v4 st5 => bd (ldA st5 v0 6) fun v6 => R (LV.tup [v6, LV.bool false])
  st5) (bd (lnilCheck a0) fun v7 => bd (fAddr 2 v7) fun v8 => bd (ld1 st1 v8) fun v9 => bd (mget st1 true (some (LV.int IntKind.i64 0)) v9 a1 true) fun v10 => bd (lextract v10 0) fun v11 => bd (lextract v10 1) fun v12 =>
  bd (lun UnOp.not v12) fun v13 => bsel v13 (bd (mkAgg (lfill (placesL [(0, 1), (1, 1), (2, 1), (3, 1), (4, 1), (5, 1)]) [LV.str [], LV.nilp, LV.bool false, LV.bool false, LV.bool false, LV.bool false] [])) fun v14 => bd2
  (lmk (stV st1 6 v0 v14)) fun _v15 st16 => bd (ldA st16 v0 6) fun v17 => R (LV.tup [v17, LV.bool false]) st16) (bd (lnilCheck a0) fun v18 => bd (fAddr 1 v18) fun v19 => bd (ld1 st1 v19) fun v20 => bd (ixSl 6 v20 v11) fun
  v21 => bd (ldA st1 v21 6) fun v22 => bd2 (lmk (stV st1 6 v0 v22)) fun _v23 st24 => bd (ldA st24 v0 6) fun v25 => R (LV.tup [v25, LV.bool true]) st24))
theorem w39_eq (a0 a1 : LV) (R : LV → LState → Prop) (st : LState) : levT Tryz.prog [.cell 4 37, .tmp 5] R [] [] 3000 [.code (bodyOf Tryz.f39)] ([a0, a1] ++ List.replicate (Tryz.f39.ntmps - 2) lundef) st = w39 a0 a1 R st := by kernel_rfl
theorem c39 (a0 a1 : LV) {R : LV → LState → Prop} {st : LState} (h : w39 a0 a1 R st) : LCalls Tryz.prog 39 [a0, a1] st R :=
  LCalls.of cm_mixed Tryz.func39 (show Tryz.f39.body = some (bodyOf Tryz.f39) by kernel_rfl) (by kernel_rfl) (show Tryz.f39.results.toList = [.cell 4 37, .tmp 5] by kernel_rfl) (levT_sound cm_mixed 3000 (Eq.mpr (w39_eq a0 a1 R st) h))

/-- (*flange.schema.Schema).Fits -/
def w41 (a0 a1 : LV) (R : LV → LState → Prop) (st : LState) : Prop :=
  bd2 (lbox st a1) fun v0 st1 => bd (ldA st1 v0 1) fun v2 => LCalls Tryz.prog 110 [a0, v2] st1 fun v3 st4 => bd (lextract v3 0) fun v5 => bd (lextract v3 1) fun v6 => bd (bInt BinOp.neq v6 (LV.int IntKind.i64 0)) fun v7 =>
  bsel v7 (R (LV.tup [v5, v6]) st4) (bd (lnilCheck a0) fun v8 => bd (fAddr 1 v8) fun v9 => bd (ld1 st4 v9) fun v10 => bd (lenSl v10) fun v11 => P41_1 v0 v10 v11 (LV.int IntKind.i64 0) R st4)
theorem w41_eq (a0 a1 : LV) (R : LV → LState → Prop) (st : LState) : levT Tryz.prog [.tmp 4, .tmp 5] R [0, 1, 2, 4, 5, 6, 7, 8, 9, 10, 11, 12, 13, 14, 15, 16, 17, 18, 19, 20, 21, 22, 23, 24, 28, 29, 30, 31, 32, 33, 34, 35, 36, 37, 38, 39, 40, 41, 42, 43, 44, 45, 46, 47] [] 3000 [.code (bodyOf Tryz.f41)] ([a0, a1] ++ List.replicate (Tryz.f41.ntmps - 2) lundef) st = w41 a0 a1 R st := by kernel_rfl
theorem c41 (a0 a1 : LV) {R : LV → LState → Prop} {st : LState} (h : w41 a0 a1 R st) : LCalls Tryz.prog 41 [a0, a1] st R :=
  LCalls.of cm_mixed Tryz.func41 (show Tryz.f41.body = some (bodyOf Tryz.f41) by kernel_rfl) (by kernel_rfl) (show Tryz.f41.results.toList = [.tmp 4, .tmp 5] by kernel_rfl) (levT_sound cm_mixed 3000 (Eq.mpr (w41_eq a0 a1 R st) h))

/-- (*flange.schema.Schema).Fits, from point 1 on -/
def w41_1 (x3 x25 x26 x27 : LV) (R : LV → LState → Prop) (st : LState) : Prop :=
  bd (bInt BinOp.lss x27 x26) fun v0 => bsel v0 (bd (ixSl 6 x25 x27) fun v1 => bd (ldA st v1 6) fun v2 => nw st [LV.str [], LV.nilp, LV.bool false, LV.bool false, LV.bool false, LV.bool false] fun v3 st4 => bd2 (lmk (stV
  st4 6 v3 v2)) fun _v5 st6 => bd (ldA st6 x3 1) fun v7 => bd (fAddr 0 v3) fun v8 => bd (ld1 st6 v8) fun v9 => LCalls Tryz.prog 50 [v7, v9] st6 fun v10 st11 => bd (lextract v10 0) fun v12 => bd (lextract v10 1) fun _v13 =>
  nw st11 [LV.nili] fun v14 st15 => bd2 (lmk (stV st15 1 v14 v12)) fun _v16 st17 => bd (fAddr 2 v3) fun v18 => bd (ld1 st17 v18) fun v19 => bsel v19 (bd (ldA st17 v14 1) fun v20 => LCalls Tryz.prog 46 [v20] st17 fun v21
  st22 => bd (bInt BinOp.eql v21 (LV.int IntKind.i64 0)) fun v23 => bsel v23 (bd (fAddr 0 v3) fun v24 => bd (ld1 st22 v24) fun v25 => R (LV.tup [v25, LV.int IntKind.i64 8]) st22) (bd (bInt BinOp.add x27 (LV.int IntKind.i64
  1)) fun v26 => P41_1 x3 x25 x26 v26 R st22)) (bd (bInt BinOp.add x27 (LV.int IntKind.i64 1)) fun v27 => P41_1 x3 x25 x26 v27 R st17)) (R (LV.tup [LV.str [], LV.int IntKind.i64 0]) st)
theorem w41_1_eq (x3 x25 x26 x27 : LV) (R : LV → LState → Prop) (st : LState) : levT Tryz.prog [.tmp 4, .tmp 5] R [0, 1, 2, 4, 5, 6, 7, 8, 9, 10, 11, 12, 13, 14, 15, 16, 17, 18, 19, 20, 21, 22, 23, 24, 28, 29, 30, 31, 32, 33, 34, 35, 36, 37, 38, 39, 40, 41, 42, 43, 44, 45, 46, 47] [] 3000 (stepIn (pointN Tryz.f41 1)) [.junk, .junk, .junk, x3, .junk, .junk, .junk, .junk, .junk, .junk, .junk, .junk, .junk, .junk, .junk, .junk, .junk, .junk, .junk, .junk, .junk, .junk, .junk, .junk, .junk, x25, x26, x27, .junk, .junk, .junk, .junk, .junk, .junk, .junk, .junk, .junk, .junk, .junk, .junk, .junk, .junk, .junk, .junk, .junk, .junk, .junk, .junk] st = w41_1 x3 x25 x26 x27 R st := by kernel_rfl
theorem p41_1 (x3 x25 x26 x27 : LV) {R : LV → LState → Prop} {st : LState} (h : w41_1 x3 x25 x26 x27 R st) : P41_1 x3 x25 x26 x27 R st :=
  LT.at cm_mixed 3000 (Eq.mpr (w41_1_eq x3 x25 x26 x27 R st) h)

/-- (*flange.schema.Schema).Fill -/
def w42 (a0 a1 : LV) (R : LV → LState → Prop) (st : LState) : Prop :=
  bd2 (lbox st a1) fun v0 st1 => nw st1 [LV.nili] fun v2 st3 => bd (ldA st3 v0 1) fun v4 => LCalls Tryz.prog 41 [a0, v4] st3 fun v5 st6 => bd (lextract v5 0) fun _v7 => bd (lextract v5 1) fun v8 => bd (bInt BinOp.neq v8
  (LV.int IntKind.i64 0)) fun v9 => bsel v9 (LCalls Tryz.prog 66 [] st6 fun v10 st11 => bd2 (lmk (stV st11 1 v2 v10)) fun _v12 st13 => bd (ldA st13 v2 1) fun v14 => R (LV.tup [v14, v8]) st13) (bd (lnilCheck a0) fun v15 =>
  bd (fAddr 1 v15) fun v16 => bd (ld1 st6 v16) fun v17 => bd (lenSl v17) fun v18 => P42_1 v0 v2 LV.nils LV.nils v17 v18 (LV.int IntKind.i64 0) R st6)
theorem w42_eq (a0 a1 : LV) (R : LV → LState → Prop) (st : LState) : levT Tryz.prog [.cell 4 57, .tmp 5] R [0, 1, 2, 5, 6, 7, 10, 11, 12, 13, 14, 15, 16, 17, 18, 19, 20, 21, 22, 23, 24, 25, 26, 30, 31, 32, 33, 34, 35, 36, 37, 38, 39, 40, 41, 42, 43, 44, 45, 46, 47, 48, 49, 50, 51, 52, 53, 54, 55, 56, 57, 58, 59, 60, 61, 62] [] 3000 [.code (bodyOf Tryz.f42)] ([a0, a1] ++ List.replicate (Tryz.f42.ntmps - 2) lundef) st = w42 a0 a1 R st := by kernel_rfl
theorem c42 (a0 a1 : LV) {R : LV → LState → Prop} {st : LState} (h : w42 a0 a1 R st) : LCalls Tryz.prog 42 [a0, a1] st R :=
  LCalls.of cm_mixed Tryz.func42 (show Tryz.f42.body = some (bodyOf Tryz.f42) by kernel_rfl) (by kernel_rfl) (show Tryz.f42.results.toList = [.cell 4 57, .tmp 5] by kernel_rfl) (levT_sound cm_mixed 3000 (Eq.mpr (w42_eq a0 a1 R st) h))

/-- (*flange.schema.Schema).Fill, from point 1 on -/
def w42_1 (x3 x4 x8 x9 x27 x28 x29 : LV) (R : LV → LState → Prop) (st : LState) : Prop :=
  bd (bInt BinOp.lss x29 x28) fun v0 => bsel v0 (bd (ixSl 6 x27 x29) fun v1 => bd (ldA st v1 6) fun v2 => nw st [LV.str [], LV.nilp, LV.bool false, LV.bool false, LV.bool false, LV.bool false] fun v3 st4 => bd2 (lmk (stV
  st4 6 v3 v2)) fun _v5 st6 => bd (ldA st6 x3 1) fun v7 => bd (fAddr 0 v3) fun v8 => bd (ld1 st6 v8) fun v9 => LCalls Tryz.prog 50 [v7, v9] st6 fun v10 st11 => bd (lextract v10 0) fun v12 => bd (lextract v10 1) fun _v13 =>
  nw st11 [LV.nili] fun v14 st15 => bd2 (lmk (stV st15 1 v14 v12)) fun _v16 st17 => bd (fAddr 3 v3) fun v18 => bd (ld1 st17 v18) fun v19 => bsel v19 (bd (ldA st17 v14 1) fun v20 => LCalls Tryz.prog 46 [v20] st17 fun v21
  st22 => bd (bInt BinOp.eql v21 (LV.int IntKind.i64 0)) fun v23 => bsel v23 (LCalls Tryz.prog 69 [] st22 fun v24 st25 => bd2 (lmk (stV st25 1 v14 v24)) fun _v26 st27 => bd (fAddr 0 v3) fun v28 => bd (ld1 st27 v28) fun v29
  => bd (ldA st27 v14 1) fun v30 => (bd2 (slNew st27 1 (lfill (fun i => some (i * 1, 1)) (List.replicate 1 [LV.nili]).flatten [(0, v30)])) fun v31 st32 => ld1 st32 v28 = some v29 ∧ bd2 (slNew st32 1 (lfill (fun i => some
  (i * 1, 1)) (List.replicate 1 [LV.str []]).flatten [(0, v29)])) fun v33 st34 => ldA st34 v14 1 = some v30 ∧ bd2 (lappend st34 1 16 Md.rw x8 v33) fun v35 st36 => ldA st36 v14 1 = some v30 ∧ bd2 (lappend st36 1 16 Md.rw x9
  v31) fun v37 st38 => bd (bInt BinOp.add x29 (LV.int IntKind.i64 1)) fun v39 => P42_1 x3 x4 v35 v37 x27 x28 v39 R st38) ∧ bd2 (slNew st27 1 (lfill (fun i => some (i * 1, 1)) (List.replicate 1 [LV.str []]).flatten [(0,
  v29)])) fun v40 st41 => ldA st41 v14 1 = some v30 ∧ (bd2 (slNew st41 1 (lfill (fun i => some (i * 1, 1)) (List.replicate 1 [LV.nili]).flatten [(0, v30)])) fun v42 st43 => ld1 st43 v28 = some v29 ∧ bd2 (lappend st43 1 16
  Md.rw x8 v40) fun v44 st45 => ldA st45 v14 1 = some v30 ∧ bd2 (lappend st45 1 16 Md.rw x9 v42) fun v46 st47 => bd (bInt BinOp.add x29 (LV.int IntKind.i64 1)) fun v48 => P42_1 x3 x4 v44 v46 x27 x28 v48 R st47) ∧ bd2
  (lappend st41 1 16 Md.rw x8 v40) fun v49 st50 => ldA st50 v14 1 = some v30 ∧ bd2 (slNew st50 1 (lfill (fun i => some (i * 1, 1)) (List.replicate 1 [LV.nili]).flatten [(0, v30)])) fun v51 st52 => ld1 st52 v28 = some v29 ∧
  bd2 (lappend st52 1 16 Md.rw x9 v51) fun v53 st54 => bd (bInt BinOp.add x29 (LV.int IntKind.i64 1)) fun v55 => P42_1 x3 x4 v49 v53 x27 x28 v55 R st54) (bd (fAddr 0 v3) fun v56 => bd (ld1 st22 v56) fun v57 => bd (ldA st22
  v14 1) fun v58 => (bd2 (slNew st22 1 (lfill (fun i => some (i * 1, 1)) (List.replicate 1 [LV.nili]).flatten [(0, v58)])) fun v59 st60 => ld1 st60 v56 = some v57 ∧ bd2 (slNew st60 1 (lfill (fun i => some (i * 1, 1))
  (List.replicate 1 [LV.str []]).flatten [(0, v57)])) fun v61 st62 => ldA st62 v14 1 = some v58 ∧ bd2 (lappend st62 1 16 Md.rw x8 v61) fun v63 st64 => ldA st64 v14 1 = some v58 ∧ bd2 (lappend st64 1 16 Md.rw x9 v59) fun
  v65 st66 => bd (bInt BinOp.add x29 (LV.int IntKind.i64 1)) fun v67 => P42_1 x3 x4 v63 v65 x27 x28 v67 R st66) ∧ bd2 (slNew st22 1 (lfill (fun i => some (i * 1, 1)) (List.replicate 1 [LV.str []]).flatten [(0, v57)])) fun
  v68 st69 => ldA st69 v14 1 = some v58 ∧ (bd2 (slNew st69 1 (lfill (fun i => some (i * 1, 1)) (List.replicate 1 [LV.nili]).flatten [(0, v58)])) fun v70 st71 => ld1 st71 v56 = some v57 ∧ bd2 (lappend st71 1 16 Md.rw x8
  v68) fun v72 st73 => ldA st73 v14 1 = some v58 ∧ bd2 (lappend st73 1 16 Md.rw x9 v70) fun v74 st75 => bd (bInt BinOp.add x29 (LV.int IntKind.i64 1)) fun v76 => P42_1 x3 x4 v72 v74 x27 x28 v76 R st75) ∧ bd2 (lappend st69
  1 16 Md.rw x8 v68) fun v77 st78 => ldA st78 v14 1 = some v58 ∧ bd2 (slNew st78 1 (lfill (fun i => some (i * 1, 1)) (List.replicate 1 [LV.nili]).flatten [(0, v58)])) fun v79 st80 => ld1 st80 v56 = some v57 ∧ bd2 (lappend
  st80 1 16 Md.rw x9 v79) fun v81 st82 => bd (bInt BinOp.add x29 (LV.int IntKind.i64 1)) fun v83 => P42_1 x3 x4 v77 v81 x27 x28 v83 R st82)) (bd (fAddr 0 v3) fun v84 => bd (ld1 st17 v84) fun v85 => bd (ldA st17 v14 1) fun
  v86 => (bd2 (slNew st17 1 (lfill (fun i => some (i * 1, 1)) (List.replicate 1 [LV.nili]).flatten [(0, v86)])) fun v87 st88 => ld1 st88 v84 = some v85 ∧ bd2 (slNew st88 1 (lfill (fun i => some (i * 1, 1)) (List.replicate
  1 [LV.str []]).flatten [(0, v85)])) fun v89 st90 => ldA st90 v14 1 = some v86 ∧ bd2 (lappend st90 1 16 Md.rw x8 v89) fun v91 st92 => ldA st92 v14 1 = some v86 ∧ bd2 (lappend st92 1 16 Md.rw x9 v87) fun v93 st94 => bd
  (bInt BinOp.add x29 (LV.int IntKind.i64 1)) fun v95 => P42_1 x3 x4 v91 v93 x27 x28 v95 R st94) ∧ bd2 (slNew st17 1 (lfill (fun i => some (i * 1, 1)) (List.replicate 1 [LV.str []]).flatten [(0, v85)])) fun v96 st97 => ldA
  st97 v14 1 = some v86 ∧ (bd2 (slNew st97 1 (lfill (fun i => some (i * 1, 1)) (List.replicate 1 [LV.nili]).flatten [(0, v86)])) fun v98 st99 => ld1 st99 v84 = some v85 ∧ bd2 (lappend st99 1 16 Md.rw x8 v96) fun v100 st101
  => ldA st101 v14 1 = some v86 ∧ bd2 (lappend st101 1 16 Md.rw x9 v98) fun v102 st103 => bd (bInt BinOp.add x29 (LV.int IntKind.i64 1)) fun v104 => P42_1 x3 x4 v100 v102 x27 x28 v104 R st103) ∧ bd2 (lappend st97 1 16
  Md.rw x8 v96) fun v105 st106 => ldA st106 v14 1 = some v86 ∧ bd2 (slNew st106 1 (lfill (fun i => some (i * 1, 1)) (List.replicate 1 [LV.nili]).flatten [(0, v86)])) fun v107 st108 => ld1 st108 v84 = some v85 ∧ bd2
  (lappend st108 1 16 Md.rw x9 v107) fun v109 st110 => bd (bInt BinOp.add x29 (LV.int IntKind.i64 1)) fun v111 => P42_1 x3 x4 v105 v109 x27 x28 v111 R st110)) (LCalls Tryz.prog 72 [x8, x9] st fun v112 st113 => bd (lextract
  v112 0) fun v114 => bd (lextract v112 1) fun v115 => bd2 (lmk (stV st113 1 x4 v114)) fun _v116 st117 => bd (ldA st117 x4 1) fun v118 => R (LV.tup [v118, v115]) st117)
theorem w42_1_eq (x3 x4 x8 x9 x27 x28 x29 : LV) (R : LV → LState → Prop) (st : LState) : levT Tryz.prog [.cell 4 57, .tmp 5] R [0, 1, 2, 5, 6, 7, 10, 11, 12, 13, 14, 15, 16, 17, 18, 19, 20, 21, 22, 23, 24, 25, 26, 30, 31, 32, 33, 34, 35, 36, 37, 38, 39, 40, 41, 42, 43, 44, 45, 46, 47, 48, 49, 50, 51, 52, 53, 54, 55, 56, 57, 58, 59, 60, 61, 62] [] 3000 (stepIn (pointN Tryz.f42 1)) [.junk, .junk, .junk, x3, x4, .junk, .junk, .junk, x8, x9, .junk, .junk, .junk, .junk, .junk, .junk, .junk, .junk, .junk, .junk, .junk, .junk, .junk, .junk, .junk, .junk, .junk, x27, x28, x29, .junk, .junk, .junk, .junk, .junk, .junk, .junk, .junk, .junk, .junk, .junk, .junk, .junk, .junk, .junk, .junk, .junk, .junk, .junk, .junk, .junk, .junk, .junk, .junk, .junk, .junk, .junk, .junk, .junk, .junk, .junk, .junk, .junk] st = w42_1 x3 x4 x8 x9 x27 x28 x29 R st := by kernel_rfl
theorem p42_1 (x3 x4 x8 x9 x27 x28 x29 : LV) {R : LV → LState → Prop} {st : LState} (h : w42_1 x3 x4 x8 x9 x27 x28 x29 R st) : P42_1 x3 x4 x8 x9 x27 x28 x29 R st :=
  LT.at cm_mixed 3000 (Eq.mpr (w42_1_eq x3 x4 x8 x9 x27 x28 x29 R st) h)

/-- (*flange.schema.Schema).Holds -/
def w43 (a0 a1 : LV) (R : LV → LState → Prop) (st : LState) : Prop :=
  bd2 (lbox st a1) fun v0 st1 => bd (ldA st1 v0 1) fun v2 => LCalls Tryz.prog 110 [a0, v2] st1 fun v3 st4 => bd (lextract v3 0) fun v5 => bd (lextract v3 1) fun v6 => bd (bInt BinOp.neq v6 (LV.int IntKind.i64 0)) fun v7 =>
  bsel v7 (R (LV.tup [v5, v6]) st4) (bd (lnilCheck a0) fun v8 => bd (fAddr 1 v8) fun v9 => bd (ld1 st4 v9) fun v10 => bd (lenSl v10) fun v11 => P43_1 v0 v10 v11 (LV.int IntKind.i64 0) R st4)
theorem w43_eq (a0 a1 : LV) (R : LV → LState → Prop) (st : LState) : levT Tryz.prog [.tmp 4, .tmp 5] R [0, 1, 2, 4, 5, 6, 7, 8, 9, 10, 11, 12, 13, 14, 15, 16, 17, 18, 19, 20, 21, 22, 23, 24, 28, 29, 30, 31, 32, 33, 34, 35, 36, 37, 38, 39, 40, 41, 42] [] 3000 [.code (bodyOf Tryz.f43)] ([a0, a1] ++ List.replicate (Tryz.f43.ntmps - 2) lundef) st = w43 a0 a1 R st := by kernel_rfl
theorem c43 (a0 a1 : LV) {R : LV → LState → Prop} {st : LState} (h : w43 a0 a1 R st) : LCalls Tryz.prog 43 [a0, a1] st R :=
  LCalls.of cm_mixed Tryz.func43 (show Tryz.f43.body = some (bodyOf Tryz.f43) by kernel_rfl) (by kernel_rfl) (show Tryz.f43.results.toList = [.tmp 4, .tmp 5] by kernel_rfl) (levT_sound cm_mixed 3000 (Eq.mpr (w43_eq a0 a1 R st) h))

/-- (*flange.schema.Schema).Holds, from point 1 on -/
def w43_1 (x3 x25 x26 x27 : LV) (R : LV → LState → Prop) (st : LState) : Prop :=
  bd (bInt BinOp.lss x27 x26) fun v0 => bsel v0 (bd (ixSl 6 x25 x27) fun v1 => bd (ldA st v1 6) fun v2 => nw st [LV.str [], LV.nilp, LV.bool false, LV.bool false, LV.bool false, LV.bool false] fun v3 st4 => bd2 (lmk (stV
  st4 6 v3 v2)) fun _v5 st6 => bd (ldA st6 x3 1) fun v7 => bd (fAddr 0 v3) fun v8 => bd (ld1 st6 v8) fun v9 => LCalls Tryz.prog 50 [v7, v9] st6 fun v10 st11 => bd (lextract v10 0) fun v12 => bd (lextract v10 1) fun v13 =>
  nw st11 [LV.nili] fun v14 st15 => bd2 (lmk (stV st15 1 v14 v12)) fun _v16 st17 => bd (lun UnOp.not v13) fun v18 => bsel v18 (bd (fAddr 0 v3) fun v19 => bd (ld1 st17 v19) fun v20 => R (LV.tup [v20, LV.int IntKind.i64 8])
  st17) (bd (bInt BinOp.add x27 (LV.int IntKind.i64 1)) fun v21 => P43_1 x3 x25 x26 v21 R st17)) (R (LV.tup [LV.str [], LV.int IntKind.i64 0]) st)
theorem w43_1_eq (x3 x25 x26 x27 : LV) (R : LV → LState → Prop) (st : LState) : levT Tryz.prog [.tmp 4, .tmp 5] R [0, 1, 2, 4, 5, 6, 7, 8, 9, 10, 11, 12, 13, 14, 15, 16, 17, 18, 19, 20, 21, 22, 23, 24, 28, 29, 30, 31, 32, 33, 34, 35, 36, 37, 38, 39, 40, 41, 42] [] 3000 (stepIn (pointN Tryz.f43 1)) [.junk, .junk, .junk, x3, .junk, .junk, .junk, .junk, .junk, .junk, .junk, .junk, .junk, .junk, .junk, .junk, .junk, .junk, .junk, .junk, .junk, .junk, .junk, .junk, .junk, x25, x26, x27, .junk, .junk, .junk, .junk, .junk, .junk, .junk, .junk, .junk, .junk, .junk, .junk, .junk, .junk, .junk] st = w43_1 x3 x25 x26 x27 R st := by kernel_rfl
theorem p43_1 (x3 x25 x26 x27 : LV) {R : LV → LState → Prop} {st : LState} (h : w43_1 x3 x25 x26 x27 R st) : P43_1 x3 x25 x26 x27 R st :=
  LT.at cm_mixed 3000 (Eq.mpr (w43_1_eq x3 x25 x26 x27 R st) h)

/-- flange.schema.Parse -/
def w21 (a0 : LV) (R : LV → LState → Prop) (st : LState) : Prop :=
  bd (lenStr a0) fun v0 => bd (bInt BinOp.gtr v0 (LV.int IntKind.i64 1048576)) fun v1 => bsel v1 (R (LV.tup [LV.nilp, LV.int IntKind.i64 0, LV.int IntKind.i64 3]) st) (LCalls Tryz.prog 80 [a0, LV.str [10]] st fun v2 st3 =>
  bd (lextract v2 0) fun v4 => bd (lextract v2 1) fun v5 => bd (lextract v2 2) fun v6 => LCalls Tryz.prog 81 [v4] st3 fun v7 st8 => bd (lextract v7 0) fun v9 => bd (lextract v7 1) fun v10 => bd (lun UnOp.not v6) fun v11 =>
  bsel v11 (R (LV.tup [LV.nilp, LV.int IntKind.i64 1, LV.int IntKind.i64 4]) st8) (bd (lun UnOp.not v10) fun v12 => bsel v12 (R (LV.tup [LV.nilp, LV.int IntKind.i64 1, LV.int IntKind.i64 4]) st8) (LCalls Tryz.prog 20 [v9,
  LV.nils] st8 fun v13 st14 => bd (lextract v13 0) fun v15 => bd (lextract v13 1) fun v16 => P21_1 v5 v9 v15 v16 (LV.int IntKind.i64 2) R st14)))
theorem w21_eq (a0 : LV) (R : LV → LState → Prop) (st : LState) : levT Tryz.prog [.tmp 2, .tmp 3, .tmp 4] R [0, 1, 2, 3, 4, 5, 7, 9, 13, 14, 15, 16, 17, 18, 19, 20, 21, 22, 23, 24, 25, 26, 27, 28, 29, 30, 31, 32, 33, 34, 35, 36, 37, 38, 39, 40, 41, 42, 43, 44, 45, 46, 47, 48, 49, 50, 51, 52, 53, 54, 55, 56, 57, 58, 59, 60, 61, 62, 63, 64, 65, 66, 67, 68, 69, 70, 71, 72, 73, 74, 75, 76, 77, 78, 79, 80, 81, 82, 83, 84, 85, 86] [] 3000 [.code (bodyOf Tryz.f21)] ([a0] ++ List.replicate (Tryz.f21.ntmps - 1) lundef) st = w21 a0 R st := by kernel_rfl
theorem c21 (a0 : LV) {R : LV → LState → Prop} {st : LState} (h : w21 a0 R st) : LCalls Tryz.prog 21 [a0] st R :=
  LCalls.of cm_mixed Tryz.func21 (show Tryz.f21.body = some (bodyOf Tryz.f21) by kernel_rfl) (by kernel_rfl) (show Tryz.f21.results.toList = [.tmp 2, .tmp 3, .tmp 4] by kernel_rfl) (levT_sound cm_mixed 3000 (Eq.mpr (w21_eq a0 R st) h))

/-- flange.schema.Parse, from point 1 on -/
def w21_1 (x6 x8 x10 x11 x12 : LV) (R : LV → LState → Prop) (st : LState) : Prop :=
  bd (bInt BinOp.eql x11 (LV.int IntKind.i64 0)) fun v0 => bsel v0 (bd (bStr BinOp.neq x6 (LV.str [])) fun v1 => bsel v1 (LCalls Tryz.prog 80 [x6, LV.str [10]] st fun v2 st3 => bd (lextract v2 0) fun v4 => bd (lextract v2
  1) fun v5 => bd (lextract v2 2) fun v6 => LCalls Tryz.prog 82 [v4] st3 fun v7 st8 => bd (lextract v7 0) fun v9 => bd (lextract v7 1) fun v10 => nw st8 [LV.str [], LV.nilp, LV.bool false, LV.bool false, LV.bool false,
  LV.bool false] fun v11 st12 => bd2 (lmk (stV st12 6 v11 v9)) fun _v13 st14 => bd (lun UnOp.not v6) fun v15 => bsel v15 (R (LV.tup [LV.nilp, x12, LV.int IntKind.i64 4]) st14) (bd (lun UnOp.not v10) fun v16 => bsel v16 (R
  (LV.tup [LV.nilp, x12, LV.int IntKind.i64 4]) st14) (bd (lnilCheck x10) fun v17 => bd (fAddr 1 v17) fun v18 => bd (ld1 st14 v18) fun v19 => bd (ldA st14 v11 6) fun v20 => bd2 (slNew st14 1 (lfill (fun i => some (i * 6,
  6)) (List.replicate 1 [LV.str [], LV.nilp, LV.bool false, LV.bool false, LV.bool false, LV.bool false]).flatten [(0, v20)])) fun v21 st22 => ld1 st22 v18 = some v19 ∧ bd2 (lappend st22 6 32 Md.rw v19 v21) fun v23 st24 =>
  LCalls Tryz.prog 20 [x8, v23] st24 fun v25 st26 => bd (lextract v25 0) fun v27 => bd (lextract v25 1) fun v28 => bd (bInt BinOp.neq v28 (LV.int IntKind.i64 0)) fun v29 => bsel v29 (R (LV.tup [LV.nilp, x12, v28]) st26)
  (bd (bInt BinOp.add x12 (LV.int IntKind.i64 1)) fun v30 => P21_1 v5 x8 v27 v28 v30 R st26)))) (bd (bInt BinOp.neq x11 (LV.int IntKind.i64 0)) fun v31 => bsel v31 (R (LV.tup [LV.nilp, LV.int IntKind.i64 1, x11]) st) (R
  (LV.tup [x10, LV.int IntKind.i64 0, LV.int IntKind.i64 0]) st))) (bd (bInt BinOp.neq x11 (LV.int IntKind.i64 0)) fun v32 => bsel v32 (R (LV.tup [LV.nilp, LV.int IntKind.i64 1, x11]) st) (R (LV.tup [x10, LV.int
  IntKind.i64 0, LV.int IntKind.i64 0]) st))
theorem w21_1_eq (x6 x8 x10 x11 x12 : LV) (R : LV → LState → Prop) (st : LState) : levT Tryz.prog [.tmp 2, .tmp 3, .tmp 4] R [0, 1, 2, 3, 4, 5, 7, 9, 13, 14, 15, 16, 17, 18, 19, 20, 21, 22, 23, 24, 25, 26, 27, 28, 29, 30, 31, 32, 33, 34, 35, 36, 37, 38, 39, 40, 41, 42, 43, 44, 45, 46, 47, 48, 49, 50, 51, 52, 53, 54, 55, 56, 57, 58, 59, 60, 61, 62, 63, 64, 65, 66, 67, 68, 69, 70, 71, 72, 73, 74, 75, 76, 77, 78, 79, 80, 81, 82, 83, 84, 85, 86] [] 3000 (stepIn (pointN Tryz.f21 1)) [.junk, .junk, .junk, .junk, .junk, .junk, x6, .junk, x8, .junk, x10, x11, x12, .junk, .junk, .junk, .junk, .junk, .junk, .junk, .junk, .junk, .junk, .junk, .junk, .junk, .junk, .junk, .junk, .junk, .junk, .junk, .junk, .junk, .junk, .junk, .junk, .junk, .junk, .junk, .junk, .junk, .junk, .junk, .junk, .junk, .junk, .junk, .junk, .junk, .junk, .junk, .junk, .junk, .junk, .junk, .junk, .junk, .junk, .junk, .junk, .junk, .junk, .junk, .junk, .junk, .junk, .junk, .junk, .junk, .junk, .junk, .junk, .junk, .junk, .junk, .junk, .junk, .junk, .junk, .junk, .junk, .junk, .junk, .junk, .junk, .junk] st = w21_1 x6 x8 x10 x11 x12 R st := by kernel_rfl
theorem p21_1 (x6 x8 x10 x11 x12 : LV) {R : LV → LState → Prop} {st : LState} (h : w21_1 x6 x8 x10 x11 x12 R st) : P21_1 x6 x8 x10 x11 x12 R st :=
  LT.at cm_mixed 3000 (Eq.mpr (w21_1_eq x6 x8 x10 x11 x12 R st) h)

/-- (*flange.schema.Schema).Print -/
def w22 (a0 : LV) (R : LV → LState → Prop) (st : LState) : Prop :=
  bd (eqB BinOp.eql (eqPtr true a0 LV.nilp)) fun v0 => bsel v0 (R (LV.str []) st) (bd (lnilCheck a0) fun v1 => bd (fAddr 0 v1) fun v2 => bd (ld1 st v2) fun v3 => LCalls Tryz.prog 83 [v3] st fun v4 st5 => bd (bStr BinOp.add
  (LV.str [118, 101, 114, 115, 105, 111, 110, 32]) v4) fun v6 => bd (bStr BinOp.add v6 (LV.str [10])) fun v7 => bd (lnilCheck a0) fun v8 => bd (fAddr 1 v8) fun v9 => bd (ld1 st5 v9) fun v10 => bd (lenSl v10) fun v11 =>
  P22_1 v7 v10 v11 (LV.int IntKind.i64 0) R st5)
theorem w22_eq (a0 : LV) (R : LV → LState → Prop) (st : LState) : levT Tryz.prog [.tmp 2] R [0, 1, 2, 4, 5, 6, 7, 8, 9, 10, 11, 12, 13, 14, 15, 16, 17, 21, 22, 23, 24, 25, 26, 27, 28, 29] [] 3000 [.code (bodyOf Tryz.f22)] ([a0] ++ List.replicate (Tryz.f22.ntmps - 1) lundef) st = w22 a0 R st := by kernel_rfl
theorem c22 (a0 : LV) {R : LV → LState → Prop} {st : LState} (h : w22 a0 R st) : LCalls Tryz.prog 22 [a0] st R :=
  LCalls.of cm_mixed Tryz.func22 (show Tryz.f22.body = some (bodyOf Tryz.f22) by kernel_rfl) (by kernel_rfl) (show Tryz.f22.results.toList = [.tmp 2] by kernel_rfl) (levT_sound cm_mixed 3000 (Eq.mpr (w22_eq a0 R st) h))

/-- (*flange.schema.Schema).Print, from point 1 on -/
def w22_1 (x3 x18 x19 x20 : LV) (R : LV → LState → Prop) (st : LState) : Prop :=
  bd (bInt BinOp.lss x20 x19) fun v0 => bsel v0 (bd (ixSl 6 x18 x20) fun v1 => bd (ldA st v1 6) fun v2 => nw st [LV.str [], LV.nilp, LV.bool false, LV.bool false, LV.bool false, LV.bool false] fun v3 st4 => bd2 (lmk (stV
  st4 6 v3 v2)) fun _v5 st6 => bd (ldA st6 v3 6) fun v7 => LCalls Tryz.prog 84 [v7] st6 fun v8 st9 => bd (bStr BinOp.add x3 v8) fun v10 => bd (bInt BinOp.add x20 (LV.int IntKind.i64 1)) fun v11 => P22_1 v10 x18 x19 v11 R
  st9) (R x3 st)
theorem w22_1_eq (x3 x18 x19 x20 : LV) (R : LV → LState → Prop) (st : LState) : levT Tryz.prog [.tmp 2] R [0, 1, 2, 4, 5, 6, 7, 8, 9, 10, 11, 12, 13, 14, 15, 16, 17, 21, 22, 23, 24, 25, 26, 27, 28, 29] [] 3000 (stepIn (pointN Tryz.f22 1)) [.junk, .junk, .junk, x3, .junk, .junk, .junk, .junk, .junk, .junk, .junk, .junk, .junk, .junk, .junk, .junk, .junk, .junk, x18, x19, x20, .junk, .junk, .junk, .junk, .junk, .junk, .junk, .junk, .junk] st = w22_1 x3 x18 x19 x20 R st := by kernel_rfl
theorem p22_1 (x3 x18 x19 x20 : LV) {R : LV → LState → Prop} {st : LState} (h : w22_1 x3 x18 x19 x20 R st) : P22_1 x3 x18 x19 x20 R st :=
  LT.at cm_mixed 3000 (Eq.mpr (w22_1_eq x3 x18 x19 x20 R st) h)

/-- (*flange.schema.Schema).Attrs -/
def w36 (a0 : LV) (R : LV → LState → Prop) (st : LState) : Prop :=
  bd (eqB BinOp.eql (eqPtr true a0 LV.nilp)) fun v0 => bsel v0 (R LV.nils st) (bd (lnilCheck a0) fun v1 => bd (fAddr 1 v1) fun v2 => bd (ld1 st v2) fun v3 => LCalls Tryz.prog 78 [v3] st fun v4 st5 => R v4 st5)
theorem w36_eq (a0 : LV) (R : LV → LState → Prop) (st : LState) : levT Tryz.prog [.tmp 2] R [] [] 3000 [.code (bodyOf Tryz.f36)] ([a0] ++ List.replicate (Tryz.f36.ntmps - 1) lundef) st = w36 a0 R st := by kernel_rfl
theorem c36 (a0 : LV) {R : LV → LState → Prop} {st : LState} (h : w36 a0 R st) : LCalls Tryz.prog 36 [a0] st R :=
  LCalls.of cm_mixed Tryz.func36 (show Tryz.f36.body = some (bodyOf Tryz.f36) by kernel_rfl) (by kernel_rfl) (show Tryz.f36.results.toList = [.tmp 2] by kernel_rfl) (levT_sound cm_mixed 3000 (Eq.mpr (w36_eq a0 R st) h))

/-- (*flange.schema.Schema).Version -/
def w37 (a0 : LV) (R : LV → LState → Prop) (st : LState) : Prop :=
  bd (eqB BinOp.eql (eqPtr true a0 LV.nilp)) fun v0 => bsel v0 (R (LV.int IntKind.i64 0) st) (bd (lnilCheck a0) fun v1 => bd (fAddr 0 v1) fun v2 => bd (ld1 st v2) fun v3 => R v3 st)
theorem w37_eq (a0 : LV) (R : LV → LState → Prop) (st : LState) : levT Tryz.prog [.tmp 2] R [] [] 3000 [.code (bodyOf Tryz.f37)] ([a0] ++ List.replicate (Tryz.f37.ntmps - 1) lundef) st = w37 a0 R st := by kernel_rfl
theorem c37 (a0 : LV) {R : LV → LState → Prop} {st : LState} (h : w37 a0 R st) : LCalls Tryz.prog 37 [a0] st R :=
  LCalls.of cm_mixed Tryz.func37 (show Tryz.f37.body = some (bodyOf Tryz.f37) by kernel_rfl) (by kernel_rfl) (show Tryz.f37.results.toList = [.tmp 2] by kernel_rfl) (levT_sound cm_mixed 3000 (Eq.mpr (w37_eq a0 R st) h))

/-- flange.schema.Same -/
def w23 (a0 a1 : LV) (R : LV → LState → Prop) (st : LState) : Prop :=
  bd (eqB BinOp.eql (eqPtr true a0 LV.nilp)) fun v0 => bd (eqB BinOp.eql (eqPtr true a1 LV.nilp)) fun v1 => bd (bBool BinOp.eql v0 v1) fun v2 => bsel v2 (LCalls Tryz.prog 22 [a0] st fun v3 st4 => LCalls Tryz.prog 22 [a1]
  st4 fun v5 st6 => bd (bStr BinOp.eql v3 v5) fun v7 => R v7 st6) (R (LV.bool false) st)
theorem w23_eq (a0 a1 : LV) (R : LV → LState → Prop) (st : LState) : levT Tryz.prog [.tmp 4] R [] [] 3000 [.code (bodyOf Tryz.f23)] ([a0, a1] ++ List.replicate (Tryz.f23.ntmps - 2) lundef) st = w23 a0 a1 R st := by kernel_rfl
theorem c23 (a0 a1 : LV) {R : LV → LState → Prop} {st : LState} (h : w23 a0 a1 R st) : LCalls Tryz.prog 23 [a0, a1] st R :=
  LCalls.of cm_mixed Tryz.func23 (show Tryz.f23.body = some (bodyOf Tryz.f23) by kernel_rfl) (by kernel_rfl) (show Tryz.f23.results.toList = [.tmp 4] by kernel_rfl) (levT_sound cm_mixed 3000 (Eq.mpr (w23_eq a0 a1 R st) h))

end Go.Proofs.YtknegckgmklnhaaGreatDoor

