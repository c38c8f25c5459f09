/- Walks over the clean machine: what each function does, printed by a program of this work (cmp.py) out of the loaded functions; each is checked by the kernel. -/
import Derived.Test.YtkjmpjaahgficaaDoorProg
import Derived.Test.YtkjmpjaahgficaaDoorCn24
namespace Go.Proofs.YtkjmpjaahgficaaDoor
open Go Go.CN
set_option maxRecDepth 100000
theorem cm_mixed : Tryd.prog.follows .mixedOrders = true := by kernel_rfl
/-- the place 1 of f14 -/
def P14_1 (x0 x2 x4 x5 x6 x7 x8 x9 : LV) (R : LV → LState → Prop) (st : LState) : Prop := LT Tryd.prog [.cell 2 28, .tmp 3] (pointN Tryd.f14 1) R [x0, .junk, x2, .junk, x4, x5, x6, x7, x8, x9, .junk, .junk, .junk, .junk, .junk, .junk, .junk, .junk, .junk, .junk, .junk, .junk, .junk, .junk, .junk, .junk, .junk, .junk, .junk, .junk, .junk, .junk, .junk, .junk, .junk, .junk, .junk, .junk, .junk, .junk, .junk, .junk, .junk, .junk, .junk, .junk, .junk, .junk, .junk, .junk, .junk, .junk, .junk, .junk, .junk, .junk, .junk, .junk, .junk, .junk, .junk, .junk, .junk, .junk, .junk, .junk, .junk, .junk, .junk, .junk, .junk, .junk, .junk, .junk, .junk, .junk, .junk, .junk, .junk, .junk, .junk, .junk, .junk, .junk, .junk, .junk, .junk, .junk, .junk, .junk, .junk, .junk, .junk, .junk, .junk, .junk, .junk, .junk, .junk, .junk, .junk, .junk, .junk, .junk, .junk, .junk, .junk, .junk, .junk, .junk, .junk, .junk, .junk, .junk, .junk, .junk, .junk, .junk, .junk, .junk, .junk, .junk, .junk, .junk, .junk, .junk, .junk, .junk, .junk, .junk, .junk, .junk, .junk, .junk, .junk, .junk, .junk, .junk, .junk, .junk, .junk, .junk, .junk, .junk, .junk, .junk, .junk, .junk, .junk, .junk] st
/-- the place 4 of f14 -/
def P14_4 (x0 x2 x4 x5 x6 x7 x8 x9 : LV) (R : LV → LState → Prop) (st : LState) : Prop := LT Tryd.prog [.cell 2 28, .tmp 3] (pointN Tryd.f14 4) R [x0, .junk, x2, .junk, x4, x5, x6, x7, x8, x9, .junk, .junk, .junk, .junk, .junk, .junk, .junk, .junk, .junk, .junk, .junk, .junk, .junk, .junk, .junk, .junk, .junk, .junk, .junk, .junk, .junk, .junk, .junk, .junk, .junk, .junk, .junk, .junk, .junk, .junk, .junk, .junk, .junk, .junk, .junk, .junk, .junk, .junk, .junk, .junk, .junk, .junk, .junk, .junk, .junk, .junk, .junk, .junk, .junk, .junk, .junk, .junk, .junk, .junk, .junk, .junk, .junk, .junk, .junk, .junk, .junk, .junk, .junk, .junk, .junk, .junk, .junk, .junk, .junk, .junk, .junk, .junk, .junk, .junk, .junk, .junk, .junk, .junk, .junk, .junk, .junk, .junk, .junk, .junk, .junk, .junk, .junk, .junk, .junk, .junk, .junk, .junk, .junk, .junk, .junk, .junk, .junk, .junk, .junk, .junk, .junk, .junk, .junk, .junk, .junk, .junk, .junk, .junk, .junk, .junk, .junk, .junk, .junk, .junk, .junk, .junk, .junk, .junk, .junk, .junk, .junk, .junk, .junk, .junk, .junk, .junk, .junk, .junk, .junk, .junk, .junk, .junk, .junk, .junk, .junk, .junk, .junk, .junk, .junk, .junk] st
/-- the place 7 of f14 -/
def P14_7 (x0 x2 x4 x5 x6 x7 x8 x9 : LV) (R : LV → LState → Prop) (st : LState) : Prop := LT Tryd.prog [.cell 2 28, .tmp 3] (pointN Tryd.f14 7) R [x0, .junk, x2, .junk, x4, x5, x6, x7, x8, x9, .junk, .junk, .junk, .junk, .junk, .junk, .junk, .junk, .junk, .junk, .junk, .junk, .junk, .junk, .junk, .junk, .junk, .junk, .junk, .junk, .junk, .junk, .junk, .junk, .junk, .junk, .junk, .junk, .junk, .junk, .junk, .junk, .junk, .junk, .junk, .junk, .junk, .junk, .junk, .junk, .junk, .junk, .junk, .junk, .junk, .junk, .junk, .junk, .junk, .junk, .junk, .junk, .junk, .junk, .junk, .junk, .junk, .junk, .junk, .junk, .junk, .junk, .junk, .junk, .junk, .junk, .junk, .junk, .junk, .junk, .junk, .junk, .junk, .junk, .junk, .junk, .junk, .junk, .junk, .junk, .junk, .junk, .junk, .junk, .junk, .junk, .junk, .junk, .junk, .junk, .junk, .junk, .junk, .junk, .junk, .junk, .junk, .junk, .junk, .junk, .junk, .junk, .junk, .junk, .junk, .junk, .junk, .junk, .junk, .junk, .junk, .junk, .junk, .junk, .junk, .junk, .junk, .junk, .junk, .junk, .junk, .junk, .junk, .junk, .junk, .junk, .junk, .junk, .junk, .junk, .junk, .junk, .junk, .junk, .junk, .junk, .junk, .junk, .junk, .junk] st
/-- the place 1 of f22 -/
def P22_1 (x0 x3 : LV) (R : LV → LState → Prop) (st : LState) : Prop := LT Tryd.prog [.tmp 2] (pointN Tryd.f22 1) R [x0, .junk, .junk, x3, .junk, .junk, .junk, .junk, .junk, .junk, .junk, .junk, .junk, .junk, .junk, .junk, .junk, .junk, .junk, .junk, .junk, .junk, .junk, .junk] st
/-- the place 1 of f25 -/
def P25_1 (x0 x1 x2 x3 x9 : LV) (R : LV → LState → Prop) (st : LState) : Prop := LT Tryd.prog [.tmp 8] (pointN Tryd.f25 1) R [x0, x1, x2, x3, .junk, .junk, .junk, .junk, .junk, x9, .junk, .junk, .junk, .junk, .junk, .junk, .junk, .junk, .junk, .junk, .junk, .junk, .junk, .junk, .junk, .junk, .junk, .junk, .junk, .junk, .junk, .junk, .junk, .junk, .junk, .junk, .junk, .junk, .junk, .junk, .junk, .junk, .junk, .junk, .junk, .junk, .junk, .junk, .junk, .junk, .junk, .junk, .junk, .junk, .junk, .junk, .junk, .junk, .junk, .junk, .junk, .junk, .junk, .junk, .junk, .junk, .junk, .junk, .junk, .junk, .junk, .junk, .junk, .junk, .junk, .junk, .junk, .junk, .junk, .junk, .junk, .junk, .junk, .junk, .junk, .junk, .junk, .junk, .junk, .junk, .junk, .junk, .junk, .junk, .junk, .junk, .junk, .junk, .junk, .junk, .junk, .junk, .junk, .junk, .junk, .junk, .junk, .junk, .junk, .junk, .junk] st
/-- the place 1 of f33 -/
def P33_1 (x0 x6 x7 : LV) (R : LV → LState → Prop) (st : LState) : Prop := LT Tryd.prog [.tmp 2] (pointN Tryd.f33 1) R [x0, .junk, .junk, .junk, .junk, .junk, x6, x7, .junk, .junk, .junk, .junk, .junk, .junk, .junk, .junk, .junk, .junk, .junk, .junk, .junk, .junk, .junk, .junk, .junk, .junk, .junk, .junk, .junk, .junk, .junk, .junk, .junk, .junk, .junk, .junk, .junk, .junk, .junk, .junk] st
/-- the place 1 of f36 -/
def P36_1 (x0 x3 : LV) (R : LV → LState → Prop) (st : LState) : Prop := LT Tryd.prog [.tmp 2] (pointN Tryd.f36 1) R [x0, .junk, .junk, x3, .junk, .junk, .junk, .junk, .junk, .junk, .junk, .junk, .junk, .junk, .junk, .junk, .junk, .junk, .junk, .junk, .junk, .junk, .junk, .junk, .junk, .junk, .junk, .junk, .junk] st

/-- flange.flangelaw17.AddressParses -/
def w4 (a0 : LV) (R : LV → LState → Prop) (st : LState) : Prop :=
  bd (lenStr a0) fun v0 =>
    bd (bInt BinOp.gtr v0 (LV.int IntKind.i64 200)) fun v1 =>
      bsel v1 (LCalls Tryd.prog 9 [] st fun v2 st3 => R v2 st3)
        (LCalls Tryd.prog 9 [] st fun v4 st5 =>
          bd (lun UnOp.not v4) fun v6 =>
            bsel v6 (LCalls Tryd.prog 9 [] st5 fun v7 st8 => R v7 st8)
              (LCalls Tryd.prog 13 [a0] st5 fun v9 st10 =>
                bd (lextract v9 0) fun v11 =>
                  bd (lextract v9 1) fun v12 =>
                    bd (lextract v9 2) fun v13 =>
                      nw st10 [LV.str [], LV.str [], LV.str [], LV.int IntKind.i64 0] fun v14 st15 =>
                        bd2 (lmk (stV st15 4 v14 v11)) fun _v16 st17 =>
                          LCalls Tryd.prog 14 [a0] st17 fun v18 st19 =>
                            bd (lextract v18 0) fun v20 =>
                              bd (lextract v18 1) fun v21 =>
                                nw st19 [LV.str [], LV.str [], LV.str [], LV.int IntKind.i64 0] fun v22 st23 =>
                                  bd2 (lmk (stV st23 4 v22 v20)) fun _v24 st25 =>
                                    bd (bInt BinOp.geq v21 (LV.int IntKind.i64 0)) fun v26 =>
                                      bsel v26
                                        (bd (ldA st25 v14 4) fun v27 =>
                                          bd (mkAgg (lfill (placesL [(0, 1), (1, 1), (2, 1), (3, 1)]) [LV.str [], LV.str [], LV.str [], LV.int IntKind.i64 0] [])) fun v28 =>
                                            bd
                                              (eqB BinOp.eql
                                                (eqAgg
                                                  (leq
                                                    Tryd.prog
                                                    64 23)
                                                  v27 v28))
                                              fun v29 =>
                                              bsel v29
                                                (bd (bInt BinOp.eql v12 v21) fun v30 =>
                                                  bsel v30 (bd (bInt BinOp.eql v13 (LV.int IntKind.i64 4)) fun v31 => R v31 st25) (R (LV.bool false) st25))
                                                (R (LV.bool false) st25))
                                        (bd (ldA st25 v14 4) fun v32 =>
                                          bd (ldA st25 v22 4) fun v33 =>
                                            LCalls Tryd.prog 10 [v32] st25 fun v34 st35 =>
                                              ldA st35 v22 4 = some v33 ∧
                                                bd
                                                  (eqB BinOp.eql
                                                    (eqAgg
                                                      (leq
                                                        Tryd.prog
                                                        64 28)
                                                      v34 v33))
                                                  fun v36 =>
                                                  bsel v36
                                                    (bd (bInt BinOp.eql v12 (LV.int IntKind.i64 0)) fun v37 =>
                                                      bsel v37
                                                        (bd (bInt BinOp.eql v13 (LV.int IntKind.i64 0)) fun v38 =>
                                                          bsel v38
                                                            (bd (ldA st35 v14 4) fun v39 =>
                                                              LCalls Tryd.prog 15 [v39] st35 fun v40 st41 =>
                                                                bsel v40
                                                                  (bd (ldA st41 v14 4) fun v42 =>
                                                                    LCalls Tryd.prog 16 [v42] st41 fun v43 st44 => bd (bStr BinOp.eql v43 a0) fun v45 => R v45 st44)
                                                                  (R (LV.bool false) st41))
                                                            (R (LV.bool false) st35))
                                                        (R (LV.bool false) st35))
                                                    (R (LV.bool false) st35))))
theorem w4_eq (a0 : LV) (R : LV → LState → Prop) (st : LState) : levT Tryd.prog [.tmp 2] R [] [] 3000 [.code (bodyOf Tryd.f4)] ([a0] ++ List.replicate (Tryd.f4.ntmps - 1) lundef) st = w4 a0 R st := by kernel_rfl
theorem c4 (a0 : LV) {R : LV → LState → Prop} {st : LState} (h : w4 a0 R st) : LCalls Tryd.prog 4 [a0] st R :=
  LCalls.of cm_mixed Tryd.func4 (show Tryd.f4.body = some (bodyOf Tryd.f4) by kernel_rfl) (by kernel_rfl) (show Tryd.f4.results.toList = [.tmp 2] by kernel_rfl) (levT_sound cm_mixed 3000 (Eq.mpr (w4_eq a0 R st) h))

/-- flange.flangelaw17.AddressPrints -/
def w5 (a0 : LV) (R : LV → LState → Prop) (st : LState) : Prop :=
  bd2 (lbox st a0) fun v0 st1 =>
    bd (ldA st1 v0 4) fun v2 =>
      LCalls Tryd.prog 8 [v2] st1 fun v3 st4 =>
        bsel v3 (LCalls Tryd.prog 9 [] st4 fun v5 st6 => R v5 st6)
          (LCalls Tryd.prog 9 [] st4 fun v7 st8 =>
            bd (lun UnOp.not v7) fun v9 =>
              bsel v9 (LCalls Tryd.prog 9 [] st8 fun v10 st11 => R v10 st11)
                (bd (ldA st8 v0 4) fun v12 =>
                  LCalls Tryd.prog 16 [v12] st8 fun v13 st14 =>
                    bd (ldA st14 v0 4) fun v15 =>
                      bd (ldA st14 v0 4) fun v16 =>
                        LCalls Tryd.prog 15 [v15] st14 fun v17 st18 =>
                          ldA st18 v0 4 = some v16 ∧
                            LCalls Tryd.prog 10 [v16] st18 fun v19 st20 =>
                              LCalls Tryd.prog 11 [v19] st20 fun v21 st22 =>
                                bd (bBool BinOp.neq v17 v21) fun v23 =>
                                  bsel v23 (R (LV.bool false) st22)
                                    (bd (ldA st22 v0 4) fun v24 =>
                                      LCalls Tryd.prog 10 [v24] st22 fun v25 st26 =>
                                        LCalls Tryd.prog 17 [v25] st26 fun v27 st28 =>
                                          bd (bStr BinOp.neq v13 v27) fun v29 =>
                                            bsel v29 (R (LV.bool false) st28)
                                              (bd (ldA st28 v0 4) fun v30 =>
                                                LCalls Tryd.prog 15 [v30] st28 fun v31 st32 =>
                                                  bd (lun UnOp.not v31) fun v33 =>
                                                    bsel v33 (bd (bStr BinOp.eql v13 (LV.str [])) fun v34 => R v34 st32)
                                                      (LCalls Tryd.prog 13 [v13] st32 fun v35 st36 =>
                                                        bd (lextract v35 0) fun v37 =>
                                                          bd (lextract v35 1) fun _v38 =>
                                                            bd (lextract v35 2) fun v39 =>
                                                              nw st36 [LV.str [], LV.str [], LV.str [], LV.int IntKind.i64 0] fun v40 st41 =>
                                                                bd2 (lmk (stV st41 4 v40 v37)) fun _v42 st43 =>
                                                                  bd (bInt BinOp.eql v39 (LV.int IntKind.i64 0)) fun v44 =>
                                                                    bsel v44
                                                                      (bd (ldA st43 v40 4) fun v45 =>
                                                                        bd (ldA st43 v0 4) fun v46 =>
                                                                          bd
                                                                            (eqB BinOp.eql
                                                                              (eqAgg
                                                                                (leq
                                                                                  Tryd.prog
                                                                                  64 23)
                                                                                v45 v46))
                                                                            fun v47 => R v47 st43)
                                                                      (R (LV.bool false) st43))))))
theorem w5_eq (a0 : LV) (R : LV → LState → Prop) (st : LState) : levT Tryd.prog [.tmp 2] R [] [] 3000 [.code (bodyOf Tryd.f5)] ([a0] ++ List.replicate (Tryd.f5.ntmps - 1) lundef) st = w5 a0 R st := by kernel_rfl
theorem c5 (a0 : LV) {R : LV → LState → Prop} {st : LState} (h : w5 a0 R st) : LCalls Tryd.prog 5 [a0] st R :=
  LCalls.of cm_mixed Tryd.func5 (show Tryd.f5.body = some (bodyOf Tryd.f5) by kernel_rfl) (by kernel_rfl) (show Tryd.f5.results.toList = [.tmp 2] by kernel_rfl) (levT_sound cm_mixed 3000 (Eq.mpr (w5_eq a0 R st) h))

/-- flange.flangelaw17.great -/
def w8 (a0 : LV) (R : LV → LState → Prop) (st : LState) : Prop :=
  bd2 (lbox st a0) fun v0 st1 =>
    bd (fAddr 0 v0) fun v2 =>
      bd (ld1 st1 v2) fun v3 =>
        bd (lenStr v3) fun v4 =>
          bd (bInt BinOp.gtr v4 (LV.int IntKind.i64 60)) fun v5 =>
            bsel v5 (R (LV.bool true) st1)
              (bd (fAddr 1 v0) fun v6 =>
                bd (ld1 st1 v6) fun v7 =>
                  bd (lenStr v7) fun v8 =>
                    bd (bInt BinOp.gtr v8 (LV.int IntKind.i64 60)) fun v9 =>
                      bsel v9 (R (LV.bool true) st1)
                        (bd (fAddr 2 v0) fun v10 => bd (ld1 st1 v10) fun v11 => bd (lenStr v11) fun v12 => bd (bInt BinOp.gtr v12 (LV.int IntKind.i64 60)) fun v13 => R v13 st1))
theorem w8_eq (a0 : LV) (R : LV → LState → Prop) (st : LState) : levT Tryd.prog [.tmp 2] R [] [] 3000 [.code (bodyOf Tryd.f8)] ([a0] ++ List.replicate (Tryd.f8.ntmps - 1) lundef) st = w8 a0 R st := by kernel_rfl
theorem c8 (a0 : LV) {R : LV → LState → Prop} {st : LState} (h : w8 a0 R st) : LCalls Tryd.prog 8 [a0] st R :=
  LCalls.of cm_mixed Tryd.func8 (show Tryd.f8.body = some (bodyOf Tryd.f8) by kernel_rfl) (by kernel_rfl) (show Tryd.f8.results.toList = [.tmp 2] by kernel_rfl) (levT_sound cm_mixed 3000 (Eq.mpr (w8_eq a0 R st) h))

/-- flange.flangelaw17.of -/
def w10 (a0 : LV) (R : LV → LState → Prop) (st : LState) : Prop :=
  bd2 (lbox st a0) fun v0 st1 =>
    nw st1 [LV.str [], LV.str [], LV.str [], LV.int IntKind.i64 0] fun v2 st3 =>
      bd (fAddr 0 v0) fun v4 =>
        bd (ld1 st3 v4) fun v5 =>
          bd (fAddr 1 v0) fun v6 =>
            bd (ld1 st3 v6) fun v7 =>
              bd (fAddr 2 v0) fun v8 =>
                bd (ld1 st3 v8) fun v9 =>
                  bd (mkAgg (lfill (fun i => some (i * 1, 1)) [LV.str [], LV.str [], LV.str []] [(0, v5), (1, v7), (2, v9)])) fun v10 =>
                    bd (fAddr 3 v0) fun v11 =>
                      bd (ld1 st3 v11) fun v12 =>
                        bd (mkAgg (lfill (placesL [(0, 3), (3, 1)]) [LV.str [], LV.str [], LV.str [], LV.int IntKind.i64 0] [(0, v10), (1, v12)])) fun v13 =>
                          bd2 (lmk (stV st3 4 v2 v13)) fun _v14 st15 => bd (ldA st15 v2 4) fun v16 => R v16 st15
theorem w10_eq (a0 : LV) (R : LV → LState → Prop) (st : LState) : levT Tryd.prog [.cell 2 28] R [] [] 3000 [.code (bodyOf Tryd.f10)] ([a0] ++ List.replicate (Tryd.f10.ntmps - 1) lundef) st = w10 a0 R st := by kernel_rfl
theorem c10 (a0 : LV) {R : LV → LState → Prop} {st : LState} (h : w10 a0 R st) : LCalls Tryd.prog 10 [a0] st R :=
  LCalls.of cm_mixed Tryd.func10 (show Tryd.f10.body = some (bodyOf Tryd.f10) by kernel_rfl) (by kernel_rfl) (show Tryd.f10.results.toList = [.cell 2 28] by kernel_rfl) (levT_sound cm_mixed 3000 (Eq.mpr (w10_eq a0 R st) h))

/-- flange.flangeref17.Right -/
def w11 (a0 : LV) (R : LV → LState → Prop) (st : LState) : Prop :=
  bd2 (lbox st a0) fun v0 st1 =>
    bd (fAddr 0 v0) fun v2 =>
      bd (ixArr 3 1 v2 (LV.int IntKind.i64 0)) fun v3 =>
        bd (ld1 st1 v3) fun v4 =>
          LCalls Tryd.prog 22 [v4] st1 fun v5 st6 =>
            bsel v5
              (bd (fAddr 0 v0) fun v7 =>
                bd (ixArr 3 1 v7 (LV.int IntKind.i64 1)) fun v8 =>
                  bd (ld1 st6 v8) fun v9 =>
                    LCalls Tryd.prog 22 [v9] st6 fun v10 st11 =>
                      bsel v10
                        (bd (fAddr 0 v0) fun v12 =>
                          bd (ixArr 3 1 v12 (LV.int IntKind.i64 2)) fun v13 =>
                            bd (ld1 st11 v13) fun v14 =>
                              LCalls Tryd.prog 22 [v14] st11 fun v15 st16 =>
                                bsel v15
                                  (bd (fAddr 3 v0) fun v17 =>
                                    bd (ld1 st16 v17) fun v18 =>
                                      bd (bInt BinOp.geq v18 (LV.int IntKind.i64 (-1))) fun v19 =>
                                        bsel v19 (bd (fAddr 3 v0) fun v20 => bd (ld1 st16 v20) fun v21 => bd (bInt BinOp.leq v21 (LV.int IntKind.i64 999)) fun v22 => R v22 st16)
                                          (R (LV.bool false) st16))
                                  (R (LV.bool false) st16))
                        (R (LV.bool false) st11))
              (R (LV.bool false) st6)
theorem w11_eq (a0 : LV) (R : LV → LState → Prop) (st : LState) : levT Tryd.prog [.tmp 2] R [] [] 3000 [.code (bodyOf Tryd.f11)] ([a0] ++ List.replicate (Tryd.f11.ntmps - 1) lundef) st = w11 a0 R st := by kernel_rfl
theorem c11 (a0 : LV) {R : LV → LState → Prop} {st : LState} (h : w11 a0 R st) : LCalls Tryd.prog 11 [a0] st R :=
  LCalls.of cm_mixed Tryd.func11 (show Tryd.f11.body = some (bodyOf Tryd.f11) by kernel_rfl) (by kernel_rfl) (show Tryd.f11.results.toList = [.tmp 2] by kernel_rfl) (levT_sound cm_mixed 3000 (Eq.mpr (w11_eq a0 R st) h))

/-- flange.address.Parse -/
def w13 (a0 : LV) (R : LV → LState → Prop) (st : LState) : Prop :=
  nw st [LV.str [], LV.str [], LV.str [], LV.int IntKind.i64 0] fun v0 st1 =>
    bd (mkAgg (lfill (placesL [(0, 1), (1, 1), (2, 1)]) [LV.str [], LV.int IntKind.i64 0, LV.bool false] [(0, a0)])) fun v2 =>
      bd2 (lbox st1 v2) fun v3 st4 =>
        bd (mkAgg (lfill (placesL [(0, 1), (1, 1), (2, 1), (3, 1)]) [LV.str [], LV.str [], LV.str [], LV.int IntKind.i64 0] [(3, LV.int IntKind.i64 (-1))])) fun v5 =>
          nw st4 [LV.str [], LV.str [], LV.str [], LV.int IntKind.i64 0] fun v6 st7 =>
            bd2 (lmk (stV st7 4 v6 v5)) fun _v8 st9 =>
              LCalls Tryd.prog 25 [v3, LV.fn (Fn.func 26) [] [], LV.fn (Fn.func 27) [] [], LV.int IntKind.i64 20] st9 fun v10 st11 =>
                bd (fAddr 0 v6) fun v12 =>
                  bd2 (lmk (stV st11 1 v12 v10)) fun _v13 st14 =>
                    LCalls Tryd.prog 28 [v3, LV.int IntKind.u8 46] st14 fun _v15 st16 =>
                      LCalls Tryd.prog 25 [v3, LV.fn (Fn.func 26) [] [], LV.fn (Fn.func 27) [] [], LV.int IntKind.i64 20] st16 fun v17 st18 =>
                        bd (fAddr 1 v6) fun v19 =>
                          bd2 (lmk (stV st18 1 v19 v17)) fun _v20 st21 =>
                            LCalls Tryd.prog 28 [v3, LV.int IntKind.u8 46] st21 fun _v22 st23 =>
                              LCalls Tryd.prog 25 [v3, LV.fn (Fn.func 26) [] [], LV.fn (Fn.func 27) [] [], LV.int IntKind.i64 20] st23 fun v24 st25 =>
                                bd (fAddr 2 v6) fun v26 =>
                                  bd2 (lmk (stV st25 1 v26 v24)) fun _v27 st28 =>
                                    LCalls Tryd.prog 29 [v3, LV.int IntKind.u8 91] st28 fun v29 st30 =>
                                      bsel v29
                                        (LCalls Tryd.prog 30 [v3] st30 fun v31 st32 =>
                                          bd (fAddr 3 v6) fun v33 =>
                                            bd2 (lmk (stV st32 1 v33 v31)) fun _v34 st35 =>
                                              bd (lnilCheck v3) fun v36 =>
                                                bd (fAddr 2 v36) fun v37 =>
                                                  bd (ld1 st35 v37) fun v38 =>
                                                    bd (lun UnOp.not v38) fun v39 =>
                                                      bsel v39
                                                        (bd (lnilCheck v3) fun v40 =>
                                                          bd (fAddr 1 v40) fun v41 =>
                                                            bd (ld1 st35 v41) fun v42 =>
                                                              bd (lenStr a0) fun v43 =>
                                                                bd (bInt BinOp.lss v42 v43) fun v44 =>
                                                                  bsel v44
                                                                    (bd (lnilCheck v3) fun v45 =>
                                                                      bd (fAddr 1 v45) fun v46 =>
                                                                        bd (ld1 st35 v46) fun v47 =>
                                                                          LCalls Tryd.prog 31 [v3, v47] st35 fun _v48 st49 =>
                                                                            bd (lnilCheck v3) fun v50 =>
                                                                              bd (fAddr 2 v50) fun v51 =>
                                                                                bd (ld1 st49 v51) fun v52 =>
                                                                                  bsel v52
                                                                                    (bd
                                                                                      (mkAgg
                                                                                        (lfill (placesL [(0, 1), (1, 1), (2, 1), (3, 1)])
                                                                                          [LV.str [], LV.str [], LV.str [], LV.int IntKind.i64 0] []))
                                                                                      fun v53 =>
                                                                                      bd (lnilCheck v3) fun v54 =>
                                                                                        bd (fAddr 1 v54) fun v55 =>
                                                                                          bd (ld1 st49 v55) fun v56 =>
                                                                                            bd2 (lmk (stV st49 4 v0 v53)) fun _v57 st58 =>
                                                                                              ld1 st58 v55 = some v56 ∧
                                                                                                bd (ldA st58 v0 4) fun v59 => R (LV.tup [v59, v56, LV.int IntKind.i64 4]) st58)
                                                                                    (bd (ldA st49 v6 4) fun v60 =>
                                                                                      bd2 (lmk (stV st49 4 v0 v60)) fun _v61 st62 =>
                                                                                        bd (ldA st62 v0 4) fun v63 =>
                                                                                          R (LV.tup [v63, LV.int IntKind.i64 0, LV.int IntKind.i64 0]) st62))
                                                                    (bd (lnilCheck v3) fun v64 =>
                                                                      bd (fAddr 2 v64) fun v65 =>
                                                                        bd (ld1 st35 v65) fun v66 =>
                                                                          bsel v66
                                                                            (bd
                                                                              (mkAgg
                                                                                (lfill (placesL [(0, 1), (1, 1), (2, 1), (3, 1)])
                                                                                  [LV.str [], LV.str [], LV.str [], LV.int IntKind.i64 0] []))
                                                                              fun v67 =>
                                                                              bd (lnilCheck v3) fun v68 =>
                                                                                bd (fAddr 1 v68) fun v69 =>
                                                                                  bd (ld1 st35 v69) fun v70 =>
                                                                                    bd2 (lmk (stV st35 4 v0 v67)) fun _v71 st72 =>
                                                                                      ld1 st72 v69 = some v70 ∧
                                                                                        bd (ldA st72 v0 4) fun v73 => R (LV.tup [v73, v70, LV.int IntKind.i64 4]) st72)
                                                                            (bd (ldA st35 v6 4) fun v74 =>
                                                                              bd2 (lmk (stV st35 4 v0 v74)) fun _v75 st76 =>
                                                                                bd (ldA st76 v0 4) fun v77 => R (LV.tup [v77, LV.int IntKind.i64 0, LV.int IntKind.i64 0]) st76)))
                                                        (bd (lnilCheck v3) fun v78 =>
                                                          bd (fAddr 2 v78) fun v79 =>
                                                            bd (ld1 st35 v79) fun v80 =>
                                                              bsel v80
                                                                (bd
                                                                  (mkAgg
                                                                    (lfill (placesL [(0, 1), (1, 1), (2, 1), (3, 1)]) [LV.str [], LV.str [], LV.str [], LV.int IntKind.i64 0] []))
                                                                  fun v81 =>
                                                                  bd (lnilCheck v3) fun v82 =>
                                                                    bd (fAddr 1 v82) fun v83 =>
                                                                      bd (ld1 st35 v83) fun v84 =>
                                                                        bd2 (lmk (stV st35 4 v0 v81)) fun _v85 st86 =>
                                                                          ld1 st86 v83 = some v84 ∧ bd (ldA st86 v0 4) fun v87 => R (LV.tup [v87, v84, LV.int IntKind.i64 4]) st86)
                                                                (bd (ldA st35 v6 4) fun v88 =>
                                                                  bd2 (lmk (stV st35 4 v0 v88)) fun _v89 st90 =>
                                                                    bd (ldA st90 v0 4) fun v91 => R (LV.tup [v91, LV.int IntKind.i64 0, LV.int IntKind.i64 0]) st90)))
                                        (bd (lnilCheck v3) fun v92 =>
                                          bd (fAddr 2 v92) fun v93 =>
                                            bd (ld1 st30 v93) fun v94 =>
                                              bd (lun UnOp.not v94) fun v95 =>
                                                bsel v95
                                                  (bd (lnilCheck v3) fun v96 =>
                                                    bd (fAddr 1 v96) fun v97 =>
                                                      bd (ld1 st30 v97) fun v98 =>
                                                        bd (lenStr a0) fun v99 =>
                                                          bd (bInt BinOp.lss v98 v99) fun v100 =>
                                                            bsel v100
                                                              (bd (lnilCheck v3) fun v101 =>
                                                                bd (fAddr 1 v101) fun v102 =>
                                                                  bd (ld1 st30 v102) fun v103 =>
                                                                    LCalls Tryd.prog 31 [v3, v103] st30 fun _v104 st105 =>
                                                                      bd (lnilCheck v3) fun v106 =>
                                                                        bd (fAddr 2 v106) fun v107 =>
                                                                          bd (ld1 st105 v107) fun v108 =>
                                                                            bsel v108
                                                                              (bd
                                                                                (mkAgg
                                                                                  (lfill (placesL [(0, 1), (1, 1), (2, 1), (3, 1)])
                                                                                    [LV.str [], LV.str [], LV.str [], LV.int IntKind.i64 0] []))
                                                                                fun v109 =>
                                                                                bd (lnilCheck v3) fun v110 =>
                                                                                  bd (fAddr 1 v110) fun v111 =>
                                                                                    bd (ld1 st105 v111) fun v112 =>
                                                                                      bd2 (lmk (stV st105 4 v0 v109)) fun _v113 st114 =>
                                                                                        ld1 st114 v111 = some v112 ∧
                                                                                          bd (ldA st114 v0 4) fun v115 => R (LV.tup [v115, v112, LV.int IntKind.i64 4]) st114)
                                                                              (bd (ldA st105 v6 4) fun v116 =>
                                                                                bd2 (lmk (stV st105 4 v0 v116)) fun _v117 st118 =>
                                                                                  bd (ldA st118 v0 4) fun v119 =>
                                                                                    R (LV.tup [v119, LV.int IntKind.i64 0, LV.int IntKind.i64 0]) st118))
                                                              (bd (lnilCheck v3) fun v120 =>
                                                                bd (fAddr 2 v120) fun v121 =>
                                                                  bd (ld1 st30 v121) fun v122 =>
                                                                    bsel v122
                                                                      (bd
                                                                        (mkAgg
                                                                          (lfill (placesL [(0, 1), (1, 1), (2, 1), (3, 1)]) [LV.str [], LV.str [], LV.str [], LV.int IntKind.i64 0]
                                                                            []))
                                                                        fun v123 =>
                                                                        bd (lnilCheck v3) fun v124 =>
                                                                          bd (fAddr 1 v124) fun v125 =>
                                                                            bd (ld1 st30 v125) fun v126 =>
                                                                              bd2 (lmk (stV st30 4 v0 v123)) fun _v127 st128 =>
                                                                                ld1 st128 v125 = some v126 ∧
                                                                                  bd (ldA st128 v0 4) fun v129 => R (LV.tup [v129, v126, LV.int IntKind.i64 4]) st128)
                                                                      (bd (ldA st30 v6 4) fun v130 =>
                                                                        bd2 (lmk (stV st30 4 v0 v130)) fun _v131 st132 =>
                                                                          bd (ldA st132 v0 4) fun v133 => R (LV.tup [v133, LV.int IntKind.i64 0, LV.int IntKind.i64 0]) st132)))
                                                  (bd (lnilCheck v3) fun v134 =>
                                                    bd (fAddr 2 v134) fun v135 =>
                                                      bd (ld1 st30 v135) fun v136 =>
                                                        bsel v136
                                                          (bd (mkAgg (lfill (placesL [(0, 1), (1, 1), (2, 1), (3, 1)]) [LV.str [], LV.str [], LV.str [], LV.int IntKind.i64 0] []))
                                                            fun v137 =>
                                                            bd (lnilCheck v3) fun v138 =>
                                                              bd (fAddr 1 v138) fun v139 =>
                                                                bd (ld1 st30 v139) fun v140 =>
                                                                  bd2 (lmk (stV st30 4 v0 v137)) fun _v141 st142 =>
                                                                    ld1 st142 v139 = some v140 ∧ bd (ldA st142 v0 4) fun v143 => R (LV.tup [v143, v140, LV.int IntKind.i64 4]) st142)
                                                          (bd (ldA st30 v6 4) fun v144 =>
                                                            bd2 (lmk (stV st30 4 v0 v144)) fun _v145 st146 =>
                                                              bd (ldA st146 v0 4) fun v147 => R (LV.tup [v147, LV.int IntKind.i64 0, LV.int IntKind.i64 0]) st146)))
theorem w13_eq (a0 : LV) (R : LV → LState → Prop) (st : LState) : levT Tryd.prog [.cell 2 23, .tmp 3, .tmp 4] R [] [] 3000 [.code (bodyOf Tryd.f13)] ([a0] ++ List.replicate (Tryd.f13.ntmps - 1) lundef) st = w13 a0 R st := by kernel_rfl
theorem c13 (a0 : LV) {R : LV → LState → Prop} {st : LState} (h : w13 a0 R st) : LCalls Tryd.prog 13 [a0] st R :=
  LCalls.of cm_mixed Tryd.func13 (show Tryd.f13.body = some (bodyOf Tryd.f13) by kernel_rfl) (by kernel_rfl) (show Tryd.f13.results.toList = [.cell 2 23, .tmp 3, .tmp 4] by kernel_rfl) (levT_sound cm_mixed 3000 (Eq.mpr (w13_eq a0 R st) h))

/-- flange.flangeref17.Parse -/
def w14 (a0 : LV) (R : LV → LState → Prop) (st : LState) : Prop :=
  nw st [LV.str [], LV.str [], LV.str [], LV.int IntKind.i64 0] fun v0 st1 =>
    bd (mkAgg (lfill (placesL [(0, 3), (3, 1)]) [LV.str [], LV.str [], LV.str [], LV.int IntKind.i64 0] [(1, LV.int IntKind.i64 (-1))])) fun v2 =>
      nw st1 [LV.str [], LV.str [], LV.str [], LV.int IntKind.i64 0] fun v3 st4 =>
        bd2 (lmk (stV st4 4 v3 v2)) fun _v5 st6 =>
          P14_1 a0 v0 v3 (LV.int IntKind.i64 0) (LV.int IntKind.i64 0) (LV.tup []) (LV.tup []) (LV.tup []) R
            st6
theorem w14_eq (a0 : LV) (R : LV → LState → Prop) (st : LState) : levT Tryd.prog [.cell 2 28, .tmp 3] R [1, 3, 10, 11, 12, 13, 14, 15, 16, 17, 18, 19, 20, 21, 22, 23, 24, 25, 26, 27, 28, 29, 30, 31, 32, 33, 34, 35, 36, 37, 38, 39, 40, 41, 42, 43, 44, 45, 46, 47, 48, 49, 50, 51, 52, 53, 54, 55, 56, 57, 58, 59, 60, 61, 62, 63, 64, 65, 66, 67, 68, 69, 70, 71, 72, 73, 74, 75, 76, 77, 78, 79, 80, 81, 82, 83, 84, 85, 86, 87, 88, 89, 90, 91, 92, 93, 94, 95, 96, 97, 98, 99, 100, 101, 102, 103, 104, 105, 106, 107, 108, 109, 110, 111, 112, 113, 114, 115, 116, 117, 118, 119, 120, 121, 122, 123, 124, 125, 126, 127, 128, 129, 130, 131, 132, 133, 134, 135, 136, 137, 138, 139, 140, 141, 142, 143, 144, 145, 146, 147, 148, 149] [] 3000 [.code (bodyOf Tryd.f14)] ([a0] ++ List.replicate (Tryd.f14.ntmps - 1) lundef) st = w14 a0 R st := by kernel_rfl
theorem c14 (a0 : LV) {R : LV → LState → Prop} {st : LState} (h : w14 a0 R st) : LCalls Tryd.prog 14 [a0] st R :=
  LCalls.of cm_mixed Tryd.func14 (show Tryd.f14.body = some (bodyOf Tryd.f14) by kernel_rfl) (by kernel_rfl) (show Tryd.f14.results.toList = [.cell 2 28, .tmp 3] by kernel_rfl) (levT_sound cm_mixed 3000 (Eq.mpr (w14_eq a0 R st) h))

/-- flange.flangeref17.Parse, from point 1 on -/
def w14_1 (x0 x2 x4 x5 x6 x7 x8 x9 : LV) (R : LV → LState → Prop) (st : LState) : Prop :=
  bd (bInt BinOp.lss x6 (LV.int IntKind.i64 3)) fun v0 =>
    bsel v0
      (bd (bInt BinOp.gtr x6 (LV.int IntKind.i64 0)) fun v1 =>
        bsel v1
          (bd (lenStr x0) fun v2 =>
            bd (bInt BinOp.geq x5 v2) fun v3 =>
              bsel v3
                (bd (mkAgg (lfill (placesL [(0, 3), (3, 1)]) [LV.str [], LV.str [], LV.str [], LV.int IntKind.i64 0] [])) fun v4 =>
                  bd2 (lmk (stV st 4 x2 v4)) fun _v5 st6 => bd (ldA st6 x2 4) fun v7 => R (LV.tup [v7, x5]) st6)
                (bd (ixStr x0 x5) fun v8 =>
                  bd (bInt BinOp.neq v8 (LV.int IntKind.u8 46)) fun v9 =>
                    bsel v9
                      (bd (mkAgg (lfill (placesL [(0, 3), (3, 1)]) [LV.str [], LV.str [], LV.str [], LV.int IntKind.i64 0] [])) fun v10 =>
                        bd2 (lmk (stV st 4 x2 v10)) fun _v11 st12 => bd (ldA st12 x2 4) fun v13 => R (LV.tup [v13, x5]) st12)
                      (bd (bInt BinOp.add x5 (LV.int IntKind.i64 1)) fun v14 =>
                        P14_4 x0 x2 x4 v14 x6 v14 x8 x9 R
                          st)))
          (P14_4 x0 x2 x4 x5 x6 x5 x8 x9 R
            st))
      (bd (lenStr x0) fun v15 =>
        bd (bInt BinOp.lss x5 v15) fun v16 =>
          bsel v16
            (bd (ixStr x0 x5) fun v17 =>
              bd (bInt BinOp.eql v17 (LV.int IntKind.u8 91)) fun v18 =>
                bsel v18
                  (bd (bInt BinOp.add x5 (LV.int IntKind.i64 1)) fun v19 =>
                    P14_7 x0 x2 x4 v19 x6 x7 v19 (LV.int IntKind.i64 0) R
                      st)
                  (bd (lenStr x0) fun v20 =>
                    bd (bInt BinOp.lss x5 v20) fun v21 =>
                      bsel v21
                        (bd (mkAgg (lfill (placesL [(0, 3), (3, 1)]) [LV.str [], LV.str [], LV.str [], LV.int IntKind.i64 0] [])) fun v22 =>
                          bd2 (lmk (stV st 4 x2 v22)) fun _v23 st24 => bd (ldA st24 x2 4) fun v25 => R (LV.tup [v25, x5]) st24)
                        (bd (ldA st x4 4) fun v26 => bd2 (lmk (stV st 4 x2 v26)) fun _v27 st28 => bd (ldA st28 x2 4) fun v29 => R (LV.tup [v29, LV.int IntKind.i64 (-1)]) st28)))
            (bd (lenStr x0) fun v30 =>
              bd (bInt BinOp.lss x5 v30) fun v31 =>
                bsel v31
                  (bd (mkAgg (lfill (placesL [(0, 3), (3, 1)]) [LV.str [], LV.str [], LV.str [], LV.int IntKind.i64 0] [])) fun v32 =>
                    bd2 (lmk (stV st 4 x2 v32)) fun _v33 st34 => bd (ldA st34 x2 4) fun v35 => R (LV.tup [v35, x5]) st34)
                  (bd (ldA st x4 4) fun v36 => bd2 (lmk (stV st 4 x2 v36)) fun _v37 st38 => bd (ldA st38 x2 4) fun v39 => R (LV.tup [v39, LV.int IntKind.i64 (-1)]) st38)))
theorem w14_1_eq (x0 x2 x4 x5 x6 x7 x8 x9 : LV) (R : LV → LState → Prop) (st : LState) : levT Tryd.prog [.cell 2 28, .tmp 3] R [1, 3, 10, 11, 12, 13, 14, 15, 16, 17, 18, 19, 20, 21, 22, 23, 24, 25, 26, 27, 28, 29, 30, 31, 32, 33, 34, 35, 36, 37, 38, 39, 40, 41, 42, 43, 44, 45, 46, 47, 48, 49, 50, 51, 52, 53, 54, 55, 56, 57, 58, 59, 60, 61, 62, 63, 64, 65, 66, 67, 68, 69, 70, 71, 72, 73, 74, 75, 76, 77, 78, 79, 80, 81, 82, 83, 84, 85, 86, 87, 88, 89, 90, 91, 92, 93, 94, 95, 96, 97, 98, 99, 100, 101, 102, 103, 104, 105, 106, 107, 108, 109, 110, 111, 112, 113, 114, 115, 116, 117, 118, 119, 120, 121, 122, 123, 124, 125, 126, 127, 128, 129, 130, 131, 132, 133, 134, 135, 136, 137, 138, 139, 140, 141, 142, 143, 144, 145, 146, 147, 148, 149] [] 3000 (stepIn (pointN Tryd.f14 1)) [x0, .junk, x2, .junk, x4, x5, x6, x7, x8, x9, .junk, .junk, .junk, .junk, .junk, .junk, .junk, .junk, .junk, .junk, .junk, .junk, .junk, .junk, .junk, .junk, .junk, .junk, .junk, .junk, .junk, .junk, .junk, .junk, .junk, .junk, .junk, .junk, .junk, .junk, .junk, .junk, .junk, .junk, .junk, .junk, .junk, .junk, .junk, .junk, .junk, .junk, .junk, .junk, .junk, .junk, .junk, .junk, .junk, .junk, .junk, .junk, .junk, .junk, .junk, .junk, .junk, .junk, .junk, .junk, .junk, .junk, .junk, .junk, .junk, .junk, .junk, .junk, .junk, .junk, .junk, .junk, .junk, .junk, .junk, .junk, .junk, .junk, .junk, .junk, .junk, .junk, .junk, .junk, .junk, .junk, .junk, .junk, .junk, .junk, .junk, .junk, .junk, .junk, .junk, .junk, .junk, .junk, .junk, .junk, .junk, .junk, .junk, .junk, .junk, .junk, .junk, .junk, .junk, .junk, .junk, .junk, .junk, .junk, .junk, .junk, .junk, .junk, .junk, .junk, .junk, .junk, .junk, .junk, .junk, .junk, .junk, .junk, .junk, .junk, .junk, .junk, .junk, .junk, .junk, .junk, .junk, .junk, .junk, .junk] st = w14_1 x0 x2 x4 x5 x6 x7 x8 x9 R st := by kernel_rfl
theorem p14_1 (x0 x2 x4 x5 x6 x7 x8 x9 : LV) {R : LV → LState → Prop} {st : LState} (h : w14_1 x0 x2 x4 x5 x6 x7 x8 x9 R st) : P14_1 x0 x2 x4 x5 x6 x7 x8 x9 R st :=
  LT.at cm_mixed 3000 (Eq.mpr (w14_1_eq x0 x2 x4 x5 x6 x7 x8 x9 R st) h)

/-- flange.flangeref17.Parse, from point 4 on -/
def w14_4 (x0 x2 x4 x5 x6 x7 x8 x9 : LV) (R : LV → LState → Prop) (st : LState) : Prop :=
  bd (lenStr x0) fun v0 =>
    bd (bInt BinOp.lss x5 v0) fun v1 =>
      bsel v1
        (bd (ixStr x0 x5) fun v2 =>
          bd (bInt BinOp.sub x5 x7) fun v3 =>
            LCalls Tryd.prog 32 [v2, v3] st fun v4 st5 =>
              bsel v4
                (bd (bInt BinOp.sub x5 x7) fun v6 =>
                  bd (bInt BinOp.eql v6 (LV.int IntKind.i64 20)) fun v7 =>
                    bsel v7
                      (bd (mkAgg (lfill (placesL [(0, 3), (3, 1)]) [LV.str [], LV.str [], LV.str [], LV.int IntKind.i64 0] [])) fun v8 =>
                        bd2 (lmk (stV st5 4 x2 v8)) fun _v9 st10 => bd (ldA st10 x2 4) fun v11 => R (LV.tup [v11, x5]) st10)
                      (bd (bInt BinOp.add x5 (LV.int IntKind.i64 1)) fun v12 =>
                        P14_4 x0 x2 x4 v12 x6 x7 x8 x9 R
                          st5))
                (bd (bInt BinOp.eql x5 x7) fun v13 =>
                  bsel v13
                    (bd (mkAgg (lfill (placesL [(0, 3), (3, 1)]) [LV.str [], LV.str [], LV.str [], LV.int IntKind.i64 0] [])) fun v14 =>
                      bd2 (lmk (stV st5 4 x2 v14)) fun _v15 st16 => bd (ldA st16 x2 4) fun v17 => R (LV.tup [v17, x5]) st16)
                    (bd (ob3 (some x7) (some x5) none fun l h m => slStr x0 l h m) fun v18 =>
                      bd (fAddr 0 x4) fun v19 =>
                        bd (ixArr 3 1 v19 x6) fun v20 =>
                          bd2 (lmk (stV st5 1 v20 v18)) fun _v21 st22 =>
                            bd (bInt BinOp.add x6 (LV.int IntKind.i64 1)) fun v23 =>
                              P14_1 x0 x2 x4 x5 v23 x7 x8 x9 R
                                st22)))
        (bd (bInt BinOp.eql x5 x7) fun v24 =>
          bsel v24
            (bd (mkAgg (lfill (placesL [(0, 3), (3, 1)]) [LV.str [], LV.str [], LV.str [], LV.int IntKind.i64 0] [])) fun v25 =>
              bd2 (lmk (stV st 4 x2 v25)) fun _v26 st27 => bd (ldA st27 x2 4) fun v28 => R (LV.tup [v28, x5]) st27)
            (bd (ob3 (some x7) (some x5) none fun l h m => slStr x0 l h m) fun v29 =>
              bd (fAddr 0 x4) fun v30 =>
                bd (ixArr 3 1 v30 x6) fun v31 =>
                  bd2 (lmk (stV st 1 v31 v29)) fun _v32 st33 =>
                    bd (bInt BinOp.add x6 (LV.int IntKind.i64 1)) fun v34 =>
                      P14_1 x0 x2 x4 x5 v34 x7 x8 x9 R
                        st33))
theorem w14_4_eq (x0 x2 x4 x5 x6 x7 x8 x9 : LV) (R : LV → LState → Prop) (st : LState) : levT Tryd.prog [.cell 2 28, .tmp 3] R [1, 3, 10, 11, 12, 13, 14, 15, 16, 17, 18, 19, 20, 21, 22, 23, 24, 25, 26, 27, 28, 29, 30, 31, 32, 33, 34, 35, 36, 37, 38, 39, 40, 41, 42, 43, 44, 45, 46, 47, 48, 49, 50, 51, 52, 53, 54, 55, 56, 57, 58, 59, 60, 61, 62, 63, 64, 65, 66, 67, 68, 69, 70, 71, 72, 73, 74, 75, 76, 77, 78, 79, 80, 81, 82, 83, 84, 85, 86, 87, 88, 89, 90, 91, 92, 93, 94, 95, 96, 97, 98, 99, 100, 101, 102, 103, 104, 105, 106, 107, 108, 109, 110, 111, 112, 113, 114, 115, 116, 117, 118, 119, 120, 121, 122, 123, 124, 125, 126, 127, 128, 129, 130, 131, 132, 133, 134, 135, 136, 137, 138, 139, 140, 141, 142, 143, 144, 145, 146, 147, 148, 149] [] 3000 (stepIn (pointN Tryd.f14 4)) [x0, .junk, x2, .junk, x4, x5, x6, x7, x8, x9, .junk, .junk, .junk, .junk, .junk, .junk, .junk, .junk, .junk, .junk, .junk, .junk, .junk, .junk, .junk, .junk, .junk, .junk, .junk, .junk, .junk, .junk, .junk, .junk, .junk, .junk, .junk, .junk, .junk, .junk, .junk, .junk, .junk, .junk, .junk, .junk, .junk, .junk, .junk, .junk, .junk, .junk, .junk, .junk, .junk, .junk, .junk, .junk, .junk, .junk, .junk, .junk, .junk, .junk, .junk, .junk, .junk, .junk, .junk, .junk, .junk, .junk, .junk, .junk, .junk, .junk, .junk, .junk, .junk, .junk, .junk, .junk, .junk, .junk, .junk, .junk, .junk, .junk, .junk, .junk, .junk, .junk, .junk, .junk, .junk, .junk, .junk, .junk, .junk, .junk, .junk, .junk, .junk, .junk, .junk, .junk, .junk, .junk, .junk, .junk, .junk, .junk, .junk, .junk, .junk, .junk, .junk, .junk, .junk, .junk, .junk, .junk, .junk, .junk, .junk, .junk, .junk, .junk, .junk, .junk, .junk, .junk, .junk, .junk, .junk, .junk, .junk, .junk, .junk, .junk, .junk, .junk, .junk, .junk, .junk, .junk, .junk, .junk, .junk, .junk] st = w14_4 x0 x2 x4 x5 x6 x7 x8 x9 R st := by kernel_rfl
theorem p14_4 (x0 x2 x4 x5 x6 x7 x8 x9 : LV) {R : LV → LState → Prop} {st : LState} (h : w14_4 x0 x2 x4 x5 x6 x7 x8 x9 R st) : P14_4 x0 x2 x4 x5 x6 x7 x8 x9 R st :=
  LT.at cm_mixed 3000 (Eq.mpr (w14_4_eq x0 x2 x4 x5 x6 x7 x8 x9 R st) h)

/-- flange.flangeref17.Parse, from point 7 on -/
def w14_7 (x0 x2 x4 x5 x6 x7 x8 x9 : LV) (R : LV → LState → Prop) (st : LState) : Prop :=
  bd (lenStr x0) fun v0 =>
    bd (bInt BinOp.lss x5 v0) fun v1 =>
      bsel v1
        (bd (ixStr x0 x5) fun v2 =>
          bd (bInt BinOp.geq v2 (LV.int IntKind.u8 48)) fun v3 =>
            bsel v3
              (bd (ixStr x0 x5) fun v4 =>
                bd (bInt BinOp.leq v4 (LV.int IntKind.u8 57)) fun v5 =>
                  bsel v5
                    (bd (bInt BinOp.sub x5 x8) fun v6 =>
                      bd (bInt BinOp.eql v6 (LV.int IntKind.i64 3)) fun v7 =>
                        bsel v7
                          (bd (mkAgg (lfill (placesL [(0, 3), (3, 1)]) [LV.str [], LV.str [], LV.str [], LV.int IntKind.i64 0] [])) fun v8 =>
                            bd2 (lmk (stV st 4 x2 v8)) fun _v9 st10 => bd (ldA st10 x2 4) fun v11 => R (LV.tup [v11, x5]) st10)
                          (bd (bInt BinOp.mul (LV.int IntKind.i64 10) x9) fun v12 =>
                            bd (ixStr x0 x5) fun v13 =>
                              bd (bInt BinOp.sub v13 (LV.int IntKind.u8 48)) fun v14 =>
                                bd (cvInt IntKind.i64 v14) fun v15 =>
                                  bd (bInt BinOp.add v12 v15) fun v16 =>
                                    bd (bInt BinOp.add x5 (LV.int IntKind.i64 1)) fun v17 =>
                                      P14_7 x0 x2 x4 v17 x6 x7 x8 v16 R
                                        st))
                    (bd (bInt BinOp.eql x5 x8) fun v18 =>
                      bsel v18
                        (bd (mkAgg (lfill (placesL [(0, 3), (3, 1)]) [LV.str [], LV.str [], LV.str [], LV.int IntKind.i64 0] [])) fun v19 =>
                          bd2 (lmk (stV st 4 x2 v19)) fun _v20 st21 => bd (ldA st21 x2 4) fun v22 => R (LV.tup [v22, x5]) st21)
                        (bd (ixStr x0 x8) fun v23 =>
                          bd (bInt BinOp.eql v23 (LV.int IntKind.u8 48)) fun v24 =>
                            bsel v24
                              (bd (bInt BinOp.sub x5 x8) fun v25 =>
                                bd (bInt BinOp.gtr v25 (LV.int IntKind.i64 1)) fun v26 =>
                                  bsel v26
                                    (bd (mkAgg (lfill (placesL [(0, 3), (3, 1)]) [LV.str [], LV.str [], LV.str [], LV.int IntKind.i64 0] [])) fun v27 =>
                                      bd2 (lmk (stV st 4 x2 v27)) fun _v28 st29 => bd (ldA st29 x2 4) fun v30 => R (LV.tup [v30, x8]) st29)
                                    (bd (lenStr x0) fun v31 =>
                                      bd (bInt BinOp.geq x5 v31) fun v32 =>
                                        bsel v32
                                          (bd (mkAgg (lfill (placesL [(0, 3), (3, 1)]) [LV.str [], LV.str [], LV.str [], LV.int IntKind.i64 0] [])) fun v33 =>
                                            bd2 (lmk (stV st 4 x2 v33)) fun _v34 st35 => bd (ldA st35 x2 4) fun v36 => R (LV.tup [v36, x5]) st35)
                                          (bd (ixStr x0 x5) fun v37 =>
                                            bd (bInt BinOp.neq v37 (LV.int IntKind.u8 93)) fun v38 =>
                                              bsel v38
                                                (bd (mkAgg (lfill (placesL [(0, 3), (3, 1)]) [LV.str [], LV.str [], LV.str [], LV.int IntKind.i64 0] [])) fun v39 =>
                                                  bd2 (lmk (stV st 4 x2 v39)) fun _v40 st41 => bd (ldA st41 x2 4) fun v42 => R (LV.tup [v42, x5]) st41)
                                                (bd (bInt BinOp.add x5 (LV.int IntKind.i64 1)) fun v43 =>
                                                  bd (fAddr 3 x4) fun v44 =>
                                                    bd2 (lmk (stV st 1 v44 x9)) fun _v45 st46 =>
                                                      bd (lenStr x0) fun v47 =>
                                                        bd (bInt BinOp.lss v43 v47) fun v48 =>
                                                          bsel v48
                                                            (bd (mkAgg (lfill (placesL [(0, 3), (3, 1)]) [LV.str [], LV.str [], LV.str [], LV.int IntKind.i64 0] [])) fun v49 =>
                                                              bd2 (lmk (stV st46 4 x2 v49)) fun _v50 st51 => bd (ldA st51 x2 4) fun v52 => R (LV.tup [v52, v43]) st51)
                                                            (bd (ldA st46 x4 4) fun v53 =>
                                                              bd2 (lmk (stV st46 4 x2 v53)) fun _v54 st55 =>
                                                                bd (ldA st55 x2 4) fun v56 => R (LV.tup [v56, LV.int IntKind.i64 (-1)]) st55)))))
                              (bd (lenStr x0) fun v57 =>
                                bd (bInt BinOp.geq x5 v57) fun v58 =>
                                  bsel v58
                                    (bd (mkAgg (lfill (placesL [(0, 3), (3, 1)]) [LV.str [], LV.str [], LV.str [], LV.int IntKind.i64 0] [])) fun v59 =>
                                      bd2 (lmk (stV st 4 x2 v59)) fun _v60 st61 => bd (ldA st61 x2 4) fun v62 => R (LV.tup [v62, x5]) st61)
                                    (bd (ixStr x0 x5) fun v63 =>
                                      bd (bInt BinOp.neq v63 (LV.int IntKind.u8 93)) fun v64 =>
                                        bsel v64
                                          (bd (mkAgg (lfill (placesL [(0, 3), (3, 1)]) [LV.str [], LV.str [], LV.str [], LV.int IntKind.i64 0] [])) fun v65 =>
                                            bd2 (lmk (stV st 4 x2 v65)) fun _v66 st67 => bd (ldA st67 x2 4) fun v68 => R (LV.tup [v68, x5]) st67)
                                          (bd (bInt BinOp.add x5 (LV.int IntKind.i64 1)) fun v69 =>
                                            bd (fAddr 3 x4) fun v70 =>
                                              bd2 (lmk (stV st 1 v70 x9)) fun _v71 st72 =>
                                                bd (lenStr x0) fun v73 =>
                                                  bd (bInt BinOp.lss v69 v73) fun v74 =>
                                                    bsel v74
                                                      (bd (mkAgg (lfill (placesL [(0, 3), (3, 1)]) [LV.str [], LV.str [], LV.str [], LV.int IntKind.i64 0] [])) fun v75 =>
                                                        bd2 (lmk (stV st72 4 x2 v75)) fun _v76 st77 => bd (ldA st77 x2 4) fun v78 => R (LV.tup [v78, v69]) st77)
                                                      (bd (ldA st72 x4 4) fun v79 =>
                                                        bd2 (lmk (stV st72 4 x2 v79)) fun _v80 st81 =>
                                                          bd (ldA st81 x2 4) fun v82 => R (LV.tup [v82, LV.int IntKind.i64 (-1)]) st81)))))))
              (bd (bInt BinOp.eql x5 x8) fun v83 =>
                bsel v83
                  (bd (mkAgg (lfill (placesL [(0, 3), (3, 1)]) [LV.str [], LV.str [], LV.str [], LV.int IntKind.i64 0] [])) fun v84 =>
                    bd2 (lmk (stV st 4 x2 v84)) fun _v85 st86 => bd (ldA st86 x2 4) fun v87 => R (LV.tup [v87, x5]) st86)
                  (bd (ixStr x0 x8) fun v88 =>
                    bd (bInt BinOp.eql v88 (LV.int IntKind.u8 48)) fun v89 =>
                      bsel v89
                        (bd (bInt BinOp.sub x5 x8) fun v90 =>
                          bd (bInt BinOp.gtr v90 (LV.int IntKind.i64 1)) fun v91 =>
                            bsel v91
                              (bd (mkAgg (lfill (placesL [(0, 3), (3, 1)]) [LV.str [], LV.str [], LV.str [], LV.int IntKind.i64 0] [])) fun v92 =>
                                bd2 (lmk (stV st 4 x2 v92)) fun _v93 st94 => bd (ldA st94 x2 4) fun v95 => R (LV.tup [v95, x8]) st94)
                              (bd (lenStr x0) fun v96 =>
                                bd (bInt BinOp.geq x5 v96) fun v97 =>
                                  bsel v97
                                    (bd (mkAgg (lfill (placesL [(0, 3), (3, 1)]) [LV.str [], LV.str [], LV.str [], LV.int IntKind.i64 0] [])) fun v98 =>
                                      bd2 (lmk (stV st 4 x2 v98)) fun _v99 st100 => bd (ldA st100 x2 4) fun v101 => R (LV.tup [v101, x5]) st100)
                                    (bd (ixStr x0 x5) fun v102 =>
                                      bd (bInt BinOp.neq v102 (LV.int IntKind.u8 93)) fun v103 =>
                                        bsel v103
                                          (bd (mkAgg (lfill (placesL [(0, 3), (3, 1)]) [LV.str [], LV.str [], LV.str [], LV.int IntKind.i64 0] [])) fun v104 =>
                                            bd2 (lmk (stV st 4 x2 v104)) fun _v105 st106 => bd (ldA st106 x2 4) fun v107 => R (LV.tup [v107, x5]) st106)
                                          (bd (bInt BinOp.add x5 (LV.int IntKind.i64 1)) fun v108 =>
                                            bd (fAddr 3 x4) fun v109 =>
                                              bd2 (lmk (stV st 1 v109 x9)) fun _v110 st111 =>
                                                bd (lenStr x0) fun v112 =>
                                                  bd (bInt BinOp.lss v108 v112) fun v113 =>
                                                    bsel v113
                                                      (bd (mkAgg (lfill (placesL [(0, 3), (3, 1)]) [LV.str [], LV.str [], LV.str [], LV.int IntKind.i64 0] [])) fun v114 =>
                                                        bd2 (lmk (stV st111 4 x2 v114)) fun _v115 st116 => bd (ldA st116 x2 4) fun v117 => R (LV.tup [v117, v108]) st116)
                                                      (bd (ldA st111 x4 4) fun v118 =>
                                                        bd2 (lmk (stV st111 4 x2 v118)) fun _v119 st120 =>
                                                          bd (ldA st120 x2 4) fun v121 => R (LV.tup [v121, LV.int IntKind.i64 (-1)]) st120)))))
                        (bd (lenStr x0) fun v122 =>
                          bd (bInt BinOp.geq x5 v122) fun v123 =>
                            bsel v123
                              (bd (mkAgg (lfill (placesL [(0, 3), (3, 1)]) [LV.str [], LV.str [], LV.str [], LV.int IntKind.i64 0] [])) fun v124 =>
                                bd2 (lmk (stV st 4 x2 v124)) fun _v125 st126 => bd (ldA st126 x2 4) fun v127 => R (LV.tup [v127, x5]) st126)
                              (bd (ixStr x0 x5) fun v128 =>
                                bd (bInt BinOp.neq v128 (LV.int IntKind.u8 93)) fun v129 =>
                                  bsel v129
                                    (bd (mkAgg (lfill (placesL [(0, 3), (3, 1)]) [LV.str [], LV.str [], LV.str [], LV.int IntKind.i64 0] [])) fun v130 =>
                                      bd2 (lmk (stV st 4 x2 v130)) fun _v131 st132 => bd (ldA st132 x2 4) fun v133 => R (LV.tup [v133, x5]) st132)
                                    (bd (bInt BinOp.add x5 (LV.int IntKind.i64 1)) fun v134 =>
                                      bd (fAddr 3 x4) fun v135 =>
                                        bd2 (lmk (stV st 1 v135 x9)) fun _v136 st137 =>
                                          bd (lenStr x0) fun v138 =>
                                            bd (bInt BinOp.lss v134 v138) fun v139 =>
                                              bsel v139
                                                (bd (mkAgg (lfill (placesL [(0, 3), (3, 1)]) [LV.str [], LV.str [], LV.str [], LV.int IntKind.i64 0] [])) fun v140 =>
                                                  bd2 (lmk (stV st137 4 x2 v140)) fun _v141 st142 => bd (ldA st142 x2 4) fun v143 => R (LV.tup [v143, v134]) st142)
                                                (bd (ldA st137 x4 4) fun v144 =>
                                                  bd2 (lmk (stV st137 4 x2 v144)) fun _v145 st146 =>
                                                    bd (ldA st146 x2 4) fun v147 => R (LV.tup [v147, LV.int IntKind.i64 (-1)]) st146)))))))
        (bd (bInt BinOp.eql x5 x8) fun v148 =>
          bsel v148
            (bd (mkAgg (lfill (placesL [(0, 3), (3, 1)]) [LV.str [], LV.str [], LV.str [], LV.int IntKind.i64 0] [])) fun v149 =>
              bd2 (lmk (stV st 4 x2 v149)) fun _v150 st151 => bd (ldA st151 x2 4) fun v152 => R (LV.tup [v152, x5]) st151)
            (bd (ixStr x0 x8) fun v153 =>
              bd (bInt BinOp.eql v153 (LV.int IntKind.u8 48)) fun v154 =>
                bsel v154
                  (bd (bInt BinOp.sub x5 x8) fun v155 =>
                    bd (bInt BinOp.gtr v155 (LV.int IntKind.i64 1)) fun v156 =>
                      bsel v156
                        (bd (mkAgg (lfill (placesL [(0, 3), (3, 1)]) [LV.str [], LV.str [], LV.str [], LV.int IntKind.i64 0] [])) fun v157 =>
                          bd2 (lmk (stV st 4 x2 v157)) fun _v158 st159 => bd (ldA st159 x2 4) fun v160 => R (LV.tup [v160, x8]) st159)
                        (bd (lenStr x0) fun v161 =>
                          bd (bInt BinOp.geq x5 v161) fun v162 =>
                            bsel v162
                              (bd (mkAgg (lfill (placesL [(0, 3), (3, 1)]) [LV.str [], LV.str [], LV.str [], LV.int IntKind.i64 0] [])) fun v163 =>
                                bd2 (lmk (stV st 4 x2 v163)) fun _v164 st165 => bd (ldA st165 x2 4) fun v166 => R (LV.tup [v166, x5]) st165)
                              (bd (ixStr x0 x5) fun v167 =>
                                bd (bInt BinOp.neq v167 (LV.int IntKind.u8 93)) fun v168 =>
                                  bsel v168
                                    (bd (mkAgg (lfill (placesL [(0, 3), (3, 1)]) [LV.str [], LV.str [], LV.str [], LV.int IntKind.i64 0] [])) fun v169 =>
                                      bd2 (lmk (stV st 4 x2 v169)) fun _v170 st171 => bd (ldA st171 x2 4) fun v172 => R (LV.tup [v172, x5]) st171)
                                    (bd (bInt BinOp.add x5 (LV.int IntKind.i64 1)) fun v173 =>
                                      bd (fAddr 3 x4) fun v174 =>
                                        bd2 (lmk (stV st 1 v174 x9)) fun _v175 st176 =>
                                          bd (lenStr x0) fun v177 =>
                                            bd (bInt BinOp.lss v173 v177) fun v178 =>
                                              bsel v178
                                                (bd (mkAgg (lfill (placesL [(0, 3), (3, 1)]) [LV.str [], LV.str [], LV.str [], LV.int IntKind.i64 0] [])) fun v179 =>
                                                  bd2 (lmk (stV st176 4 x2 v179)) fun _v180 st181 => bd (ldA st181 x2 4) fun v182 => R (LV.tup [v182, v173]) st181)
                                                (bd (ldA st176 x4 4) fun v183 =>
                                                  bd2 (lmk (stV st176 4 x2 v183)) fun _v184 st185 =>
                                                    bd (ldA st185 x2 4) fun v186 => R (LV.tup [v186, LV.int IntKind.i64 (-1)]) st185)))))
                  (bd (lenStr x0) fun v187 =>
                    bd (bInt BinOp.geq x5 v187) fun v188 =>
                      bsel v188
                        (bd (mkAgg (lfill (placesL [(0, 3), (3, 1)]) [LV.str [], LV.str [], LV.str [], LV.int IntKind.i64 0] [])) fun v189 =>
                          bd2 (lmk (stV st 4 x2 v189)) fun _v190 st191 => bd (ldA st191 x2 4) fun v192 => R (LV.tup [v192, x5]) st191)
                        (bd (ixStr x0 x5) fun v193 =>
                          bd (bInt BinOp.neq v193 (LV.int IntKind.u8 93)) fun v194 =>
                            bsel v194
                              (bd (mkAgg (lfill (placesL [(0, 3), (3, 1)]) [LV.str [], LV.str [], LV.str [], LV.int IntKind.i64 0] [])) fun v195 =>
                                bd2 (lmk (stV st 4 x2 v195)) fun _v196 st197 => bd (ldA st197 x2 4) fun v198 => R (LV.tup [v198, x5]) st197)
                              (bd (bInt BinOp.add x5 (LV.int IntKind.i64 1)) fun v199 =>
                                bd (fAddr 3 x4) fun v200 =>
                                  bd2 (lmk (stV st 1 v200 x9)) fun _v201 st202 =>
                                    bd (lenStr x0) fun v203 =>
                                      bd (bInt BinOp.lss v199 v203) fun v204 =>
                                        bsel v204
                                          (bd (mkAgg (lfill (placesL [(0, 3), (3, 1)]) [LV.str [], LV.str [], LV.str [], LV.int IntKind.i64 0] [])) fun v205 =>
                                            bd2 (lmk (stV st202 4 x2 v205)) fun _v206 st207 => bd (ldA st207 x2 4) fun v208 => R (LV.tup [v208, v199]) st207)
                                          (bd (ldA st202 x4 4) fun v209 =>
                                            bd2 (lmk (stV st202 4 x2 v209)) fun _v210 st211 => bd (ldA st211 x2 4) fun v212 => R (LV.tup [v212, LV.int IntKind.i64 (-1)]) st211))))))
theorem w14_7_eq (x0 x2 x4 x5 x6 x7 x8 x9 : LV) (R : LV → LState → Prop) (st : LState) : levT Tryd.prog [.cell 2 28, .tmp 3] R [1, 3, 10, 11, 12, 13, 14, 15, 16, 17, 18, 19, 20, 21, 22, 23, 24, 25, 26, 27, 28, 29, 30, 31, 32, 33, 34, 35, 36, 37, 38, 39, 40, 41, 42, 43, 44, 45, 46, 47, 48, 49, 50, 51, 52, 53, 54, 55, 56, 57, 58, 59, 60, 61, 62, 63, 64, 65, 66, 67, 68, 69, 70, 71, 72, 73, 74, 75, 76, 77, 78, 79, 80, 81, 82, 83, 84, 85, 86, 87, 88, 89, 90, 91, 92, 93, 94, 95, 96, 97, 98, 99, 100, 101, 102, 103, 104, 105, 106, 107, 108, 109, 110, 111, 112, 113, 114, 115, 116, 117, 118, 119, 120, 121, 122, 123, 124, 125, 126, 127, 128, 129, 130, 131, 132, 133, 134, 135, 136, 137, 138, 139, 140, 141, 142, 143, 144, 145, 146, 147, 148, 149] [] 3000 (stepIn (pointN Tryd.f14 7)) [x0, .junk, x2, .junk, x4, x5, x6, x7, x8, x9, .junk, .junk, .junk, .junk, .junk, .junk, .junk, .junk, .junk, .junk, .junk, .junk, .junk, .junk, .junk, .junk, .junk, .junk, .junk, .junk, .junk, .junk, .junk, .junk, .junk, .junk, .junk, .junk, .junk, .junk, .junk, .junk, .junk, .junk, .junk, .junk, .junk, .junk, .junk, .junk, .junk, .junk, .junk, .junk, .junk, .junk, .junk, .junk, .junk, .junk, .junk, .junk, .junk, .junk, .junk, .junk, .junk, .junk, .junk, .junk, .junk, .junk, .junk, .junk, .junk, .junk, .junk, .junk, .junk, .junk, .junk, .junk, .junk, .junk, .junk, .junk, .junk, .junk, .junk, .junk, .junk, .junk, .junk, .junk, .junk, .junk, .junk, .junk, .junk, .junk, .junk, .junk, .junk, .junk, .junk, .junk, .junk, .junk, .junk, .junk, .junk, .junk, .junk, .junk, .junk, .junk, .junk, .junk, .junk, .junk, .junk, .junk, .junk, .junk, .junk, .junk, .junk, .junk, .junk, .junk, .junk, .junk, .junk, .junk, .junk, .junk, .junk, .junk, .junk, .junk, .junk, .junk, .junk, .junk, .junk, .junk, .junk, .junk, .junk, .junk] st = w14_7 x0 x2 x4 x5 x6 x7 x8 x9 R st := by kernel_rfl
theorem p14_7 (x0 x2 x4 x5 x6 x7 x8 x9 : LV) {R : LV → LState → Prop} {st : LState} (h : w14_7 x0 x2 x4 x5 x6 x7 x8 x9 R st) : P14_7 x0 x2 x4 x5 x6 x7 x8 x9 R st :=
  LT.at cm_mixed 3000 (Eq.mpr (w14_7_eq x0 x2 x4 x5 x6 x7 x8 x9 R st) h)

/-- (flange.address.Address).Right -/
def w15 (a0 : LV) (R : LV → LState → Prop) (st : LState) : Prop :=
  bd2 (lbox st a0) fun v0 st1 =>
    bd (fAddr 0 v0) fun v2 =>
      bd (ld1 st1 v2) fun v3 =>
        LCalls Tryd.prog 33 [v3] st1 fun v4 st5 =>
          bsel v4
            (bd (fAddr 1 v0) fun v6 =>
              bd (ld1 st5 v6) fun v7 =>
                LCalls Tryd.prog 33 [v7] st5 fun v8 st9 =>
                  bsel v8
                    (bd (fAddr 2 v0) fun v10 =>
                      bd (ld1 st9 v10) fun v11 =>
                        LCalls Tryd.prog 33 [v11] st9 fun v12 st13 =>
                          bsel v12
                            (bd (fAddr 3 v0) fun v14 =>
                              bd (ld1 st13 v14) fun v15 =>
                                bd (bInt BinOp.geq v15 (LV.int IntKind.i64 (-1))) fun v16 =>
                                  bsel v16 (bd (fAddr 3 v0) fun v17 => bd (ld1 st13 v17) fun v18 => bd (bInt BinOp.leq v18 (LV.int IntKind.i64 999)) fun v19 => R v19 st13)
                                    (R (LV.bool false) st13))
                            (R (LV.bool false) st13))
                    (R (LV.bool false) st9))
            (R (LV.bool false) st5)
theorem w15_eq (a0 : LV) (R : LV → LState → Prop) (st : LState) : levT Tryd.prog [.tmp 2] R [] [] 3000 [.code (bodyOf Tryd.f15)] ([a0] ++ List.replicate (Tryd.f15.ntmps - 1) lundef) st = w15 a0 R st := by kernel_rfl
theorem c15 (a0 : LV) {R : LV → LState → Prop} {st : LState} (h : w15 a0 R st) : LCalls Tryd.prog 15 [a0] st R :=
  LCalls.of cm_mixed Tryd.func15 (show Tryd.f15.body = some (bodyOf Tryd.f15) by kernel_rfl) (by kernel_rfl) (show Tryd.f15.results.toList = [.tmp 2] by kernel_rfl) (levT_sound cm_mixed 3000 (Eq.mpr (w15_eq a0 R st) h))

/-- (flange.address.Address).Print -/
def w16 (a0 : LV) (R : LV → LState → Prop) (st : LState) : Prop :=
  bd2 (lbox st a0) fun v0 st1 =>
    bd (ldA st1 v0 4) fun v2 =>
      LCalls Tryd.prog 15 [v2] st1 fun v3 st4 =>
        bd (lun UnOp.not v3) fun v5 =>
          bsel v5 (R (LV.str []) st4)
            (bd (ldA st4 v0 4) fun v6 =>
              LCalls Tryd.prog 24 [v6] st4 fun v7 st8 =>
                LCalls Tryd.prog 34 [v7, LV.str [46]] st8 fun v9 st10 =>
                  bd (fAddr 3 v0) fun v11 =>
                    bd (ld1 st10 v11) fun v12 =>
                      bd (bInt BinOp.neq v12 (LV.int IntKind.i64 (-1))) fun v13 =>
                        bsel v13
                          (bd (fAddr 3 v0) fun v14 =>
                            bd (ld1 st10 v14) fun v15 =>
                              LCalls Tryd.prog 35 [v15] st10 fun v16 st17 =>
                                bd (bStr BinOp.add (LV.str [91]) v16) fun v18 => bd (bStr BinOp.add v18 (LV.str [93])) fun v19 => bd (bStr BinOp.add v9 v19) fun v20 => R v20 st17)
                          (R v9 st10))
theorem w16_eq (a0 : LV) (R : LV → LState → Prop) (st : LState) : levT Tryd.prog [.tmp 2] R [] [] 3000 [.code (bodyOf Tryd.f16)] ([a0] ++ List.replicate (Tryd.f16.ntmps - 1) lundef) st = w16 a0 R st := by kernel_rfl
theorem c16 (a0 : LV) {R : LV → LState → Prop} {st : LState} (h : w16 a0 R st) : LCalls Tryd.prog 16 [a0] st R :=
  LCalls.of cm_mixed Tryd.func16 (show Tryd.f16.body = some (bodyOf Tryd.f16) by kernel_rfl) (by kernel_rfl) (show Tryd.f16.results.toList = [.tmp 2] by kernel_rfl) (levT_sound cm_mixed 3000 (Eq.mpr (w16_eq a0 R st) h))

/-- flange.flangeref17.Print -/
def w17 (a0 : LV) (R : LV → LState → Prop) (st : LState) : Prop :=
  bd2 (lbox st a0) fun v0 st1 =>
    bd (ldA st1 v0 4) fun v2 =>
      LCalls Tryd.prog 11 [v2] st1 fun v3 st4 =>
        bd (lun UnOp.not v3) fun v5 =>
          bsel v5 (R (LV.str []) st4)
            (bd (fAddr 0 v0) fun v6 =>
              bd (ixArr 3 1 v6 (LV.int IntKind.i64 0)) fun v7 =>
                bd (ld1 st4 v7) fun v8 =>
                  bd (bStr BinOp.add v8 (LV.str [46])) fun v9 =>
                    bd (fAddr 0 v0) fun v10 =>
                      bd (ixArr 3 1 v10 (LV.int IntKind.i64 1)) fun v11 =>
                        bd (ld1 st4 v11) fun v12 =>
                          bd (bStr BinOp.add v9 v12) fun v13 =>
                            bd (bStr BinOp.add v13 (LV.str [46])) fun v14 =>
                              bd (fAddr 0 v0) fun v15 =>
                                bd (ixArr 3 1 v15 (LV.int IntKind.i64 2)) fun v16 =>
                                  bd (ld1 st4 v16) fun v17 =>
                                    bd (bStr BinOp.add v14 v17) fun v18 =>
                                      bd (fAddr 3 v0) fun v19 =>
                                        bd (ld1 st4 v19) fun v20 =>
                                          bd (bInt BinOp.geq v20 (LV.int IntKind.i64 0)) fun v21 =>
                                            bsel v21
                                              (bd (bStr BinOp.add v18 (LV.str [91])) fun v22 =>
                                                bd (fAddr 3 v0) fun v23 =>
                                                  bd (ld1 st4 v23) fun v24 =>
                                                    LCalls Tryd.prog 36 [v24] st4 fun v25 st26 =>
                                                      bd (bStr BinOp.add v22 v25) fun v27 => bd (bStr BinOp.add v27 (LV.str [93])) fun v28 => R v28 st26)
                                              (R v18 st4))
theorem w17_eq (a0 : LV) (R : LV → LState → Prop) (st : LState) : levT Tryd.prog [.tmp 2] R [] [] 3000 [.code (bodyOf Tryd.f17)] ([a0] ++ List.replicate (Tryd.f17.ntmps - 1) lundef) st = w17 a0 R st := by kernel_rfl
theorem c17 (a0 : LV) {R : LV → LState → Prop} {st : LState} (h : w17 a0 R st) : LCalls Tryd.prog 17 [a0] st R :=
  LCalls.of cm_mixed Tryd.func17 (show Tryd.f17.body = some (bodyOf Tryd.f17) by kernel_rfl) (by kernel_rfl) (show Tryd.f17.results.toList = [.tmp 2] by kernel_rfl) (levT_sound cm_mixed 3000 (Eq.mpr (w17_eq a0 R st) h))

/-- flange.flangeref17.Named -/
def w22 (a0 : LV) (R : LV → LState → Prop) (st : LState) : Prop :=
  P22_1 a0 (LV.int IntKind.i64 0) R
    st
theorem w22_eq (a0 : LV) (R : LV → LState → Prop) (st : LState) : levT Tryd.prog [.tmp 2] R [1, 2, 4, 5, 6, 7, 8, 9, 10, 11, 12, 13, 14, 15, 16, 17, 18, 19, 20, 21, 22, 23] [] 3000 [.code (bodyOf Tryd.f22)] ([a0] ++ List.replicate (Tryd.f22.ntmps - 1) lundef) st = w22 a0 R st := by kernel_rfl
theorem c22 (a0 : LV) {R : LV → LState → Prop} {st : LState} (h : w22 a0 R st) : LCalls Tryd.prog 22 [a0] st R :=
  LCalls.of cm_mixed Tryd.func22 (show Tryd.f22.body = some (bodyOf Tryd.f22) by kernel_rfl) (by kernel_rfl) (show Tryd.f22.results.toList = [.tmp 2] by kernel_rfl) (levT_sound cm_mixed 3000 (Eq.mpr (w22_eq a0 R st) h))

/-- flange.flangeref17.Named, from point 1 on -/
def w22_1 (x0 x3 : LV) (R : LV → LState → Prop) (st : LState) : Prop :=
  bd (lenStr x0) fun v0 =>
    bd (bInt BinOp.lss x3 v0) fun v1 =>
      bsel v1
        (bd (ixStr x0 x3) fun v2 =>
          LCalls Tryd.prog 32 [v2, x3] st fun v3 st4 =>
            bd (lun UnOp.not v3) fun v5 =>
              bsel v5 (R (LV.bool false) st4)
                (bd (bInt BinOp.add x3 (LV.int IntKind.i64 1)) fun v6 =>
                  P22_1 x0 v6 R
                    st4))
        (bd (lenStr x0) fun v7 =>
          bd (bInt BinOp.gtr v7 (LV.int IntKind.i64 0)) fun v8 =>
            bsel v8 (bd (lenStr x0) fun v9 => bd (bInt BinOp.leq v9 (LV.int IntKind.i64 20)) fun v10 => R v10 st) (R (LV.bool false) st))
theorem w22_1_eq (x0 x3 : LV) (R : LV → LState → Prop) (st : LState) : levT Tryd.prog [.tmp 2] R [1, 2, 4, 5, 6, 7, 8, 9, 10, 11, 12, 13, 14, 15, 16, 17, 18, 19, 20, 21, 22, 23] [] 3000 (stepIn (pointN Tryd.f22 1)) [x0, .junk, .junk, x3, .junk, .junk, .junk, .junk, .junk, .junk, .junk, .junk, .junk, .junk, .junk, .junk, .junk, .junk, .junk, .junk, .junk, .junk, .junk, .junk] st = w22_1 x0 x3 R st := by kernel_rfl
theorem p22_1 (x0 x3 : LV) {R : LV → LState → Prop} {st : LState} (h : w22_1 x0 x3 R st) : P22_1 x0 x3 R st :=
  LT.at cm_mixed 3000 (Eq.mpr (w22_1_eq x0 x3 R st) h)

/-- (flange.address.Address).words -/
def w24 (a0 : LV) (R : LV → LState → Prop) (st : LState) : Prop :=
  bd2 (lbox st a0) fun v0 st1 =>
    bd (fAddr 0 v0) fun v2 =>
      bd (ld1 st1 v2) fun v3 =>
        bd (fAddr 1 v0) fun v4 =>
          bd (ld1 st1 v4) fun v5 =>
            bd (fAddr 2 v0) fun v6 =>
              bd (ld1 st1 v6) fun v7 => bd2 (slNew st1 3 (lfill (fun i => some (i * 1, 1)) (List.replicate 3 [LV.str []]).flatten [(0, v3), (1, v5), (2, v7)])) fun v8 st9 => R v8 st9
theorem w24_eq (a0 : LV) (R : LV → LState → Prop) (st : LState) : levT Tryd.prog [.tmp 2] R [] [] 3000 [.code (bodyOf Tryd.f24)] ([a0] ++ List.replicate (Tryd.f24.ntmps - 1) lundef) st = w24 a0 R st := by kernel_rfl
theorem c24 (a0 : LV) {R : LV → LState → Prop} {st : LState} (h : w24 a0 R st) : LCalls Tryd.prog 24 [a0] st R :=
  LCalls.of cm_mixed Tryd.func24 (show Tryd.f24.body = some (bodyOf Tryd.f24) by kernel_rfl) (by kernel_rfl) (show Tryd.f24.results.toList = [.tmp 2] by kernel_rfl) (levT_sound cm_mixed 3000 (Eq.mpr (w24_eq a0 R st) h))

/-- (*flange.address.reader).run -/
def w25 (a0 a1 a2 a3 : LV) (R : LV → LState → Prop) (st : LState) : Prop :=
  bd (lnilCheck a0) fun v0 =>
    bd (fAddr 1 v0) fun v1 =>
      bd (ld1 st v1) fun v2 =>
        P25_1 a0 a1 a2 a3 v2 R
          st
theorem w25_eq (a0 a1 a2 a3 : LV) (R : LV → LState → Prop) (st : LState) : levT Tryd.prog [.tmp 8] R [4, 5, 6, 7, 8, 10, 11, 12, 13, 14, 15, 16, 17, 18, 19, 20, 21, 22, 23, 24, 25, 26, 27, 28, 29, 30, 31, 32, 33, 34, 35, 36, 37, 38, 39, 40, 41, 42, 43, 44, 45, 46, 47, 48, 49, 50, 51, 52, 53, 54, 55, 56, 57, 58, 59, 60, 61, 62, 63, 64, 65, 66, 67, 68, 69, 70, 71, 72, 73, 74, 75, 76, 77, 78, 79, 80, 81, 82, 83, 84, 85, 86, 87, 88, 89, 90, 91, 92, 93, 94, 95, 96, 97, 98, 99, 100, 101, 102, 103, 104, 105, 106, 107, 108, 109, 110] [] 3000 [.code (bodyOf Tryd.f25)] ([a0, a1, a2, a3] ++ List.replicate (Tryd.f25.ntmps - 4) lundef) st = w25 a0 a1 a2 a3 R st := by kernel_rfl
theorem c25 (a0 a1 a2 a3 : LV) {R : LV → LState → Prop} {st : LState} (h : w25 a0 a1 a2 a3 R st) : LCalls Tryd.prog 25 [a0, a1, a2, a3] st R :=
  LCalls.of cm_mixed Tryd.func25 (show Tryd.f25.body = some (bodyOf Tryd.f25) by kernel_rfl) (by kernel_rfl) (show Tryd.f25.results.toList = [.tmp 8] by kernel_rfl) (levT_sound cm_mixed 3000 (Eq.mpr (w25_eq a0 a1 a2 a3 R st) h))

/-- (*flange.address.reader).run, from point 1 on -/
def w25_1 (x0 x1 x2 x3 x9 : LV) (R : LV → LState → Prop) (st : LState) : Prop :=
  bd (lnilCheck x0) fun v0 =>
    bd (fAddr 2 v0) fun v1 =>
      bd (ld1 st v1) fun v2 =>
        bd (lun UnOp.not v2) fun v3 =>
          bsel v3
            (bd (lnilCheck x0) fun v4 =>
              bd (fAddr 1 v4) fun v5 =>
                bd (ld1 st v5) fun v6 =>
                  bd (lnilCheck x0) fun v7 =>
                    bd (fAddr 0 v7) fun v8 =>
                      bd (ld1 st v8) fun v9 =>
                        bd (lenStr v9) fun v10 =>
                          bd (bInt BinOp.lss v6 v10) fun v11 =>
                            bsel v11
                              (bd (lnilCheck x0) fun v12 =>
                                bd (fAddr 0 v12) fun v13 =>
                                  bd (ld1 st v13) fun v14 =>
                                    bd (lnilCheck x0) fun v15 =>
                                      bd (fAddr 1 v15) fun v16 =>
                                        bd (ld1 st v16) fun v17 =>
                                          bd (ixStr v14 v17) fun v18 =>
                                            bd (lnilCheck x0) fun v19 =>
                                              bd (fAddr 1 v19) fun v20 =>
                                                bd (ld1 st v20) fun v21 =>
                                                  bd (bInt BinOp.eql v21 x9) fun v22 =>
                                                    bsel v22
                                                      (bd2 (lclo x1 [v18]) fun f23 xs24 =>
                                                        LCalls Tryd.prog f23 xs24 st fun v25 st26 =>
                                                          bsel v25
                                                            (bd (lun UnOp.not (LV.bool true)) fun v27 =>
                                                              bsel v27
                                                                (bd (lnilCheck x0) fun v28 =>
                                                                  bd (fAddr 1 v28) fun v29 =>
                                                                    bd (ld1 st26 v29) fun v30 =>
                                                                      bd (bInt BinOp.eql v30 x9) fun v31 =>
                                                                        bsel v31
                                                                          (bd (lnilCheck x0) fun v32 =>
                                                                            bd (fAddr 1 v32) fun v33 =>
                                                                              bd (ld1 st26 v33) fun v34 =>
                                                                                LCalls Tryd.prog 31 [x0, v34] st26 fun _v35 st36 =>
                                                                                  bd (lnilCheck x0) fun v37 =>
                                                                                    bd (fAddr 0 v37) fun v38 =>
                                                                                      bd (ld1 st36 v38) fun v39 =>
                                                                                        bd (lnilCheck x0) fun v40 =>
                                                                                          bd (fAddr 1 v40) fun v41 =>
                                                                                            bd (ld1 st36 v41) fun v42 =>
                                                                                              bd (ob3 (some x9) (some v42) none fun l h m => slStr v39 l h m) fun v43 => R v43 st36)
                                                                          (bd (lnilCheck x0) fun v44 =>
                                                                            bd (fAddr 0 v44) fun v45 =>
                                                                              bd (ld1 st26 v45) fun v46 =>
                                                                                bd (lnilCheck x0) fun v47 =>
                                                                                  bd (fAddr 1 v47) fun v48 =>
                                                                                    bd (ld1 st26 v48) fun v49 =>
                                                                                      bd (ob3 (some x9) (some v49) none fun l h m => slStr v46 l h m) fun v50 => R v50 st26))
                                                                (bd (lnilCheck x0) fun v51 =>
                                                                  bd (fAddr 1 v51) fun v52 =>
                                                                    bd (ld1 st26 v52) fun v53 =>
                                                                      bd (bInt BinOp.sub v53 x9) fun v54 =>
                                                                        bd (bInt BinOp.eql v54 x3) fun v55 =>
                                                                          bsel v55
                                                                            (bd (lnilCheck x0) fun v56 =>
                                                                              bd (fAddr 1 v56) fun v57 =>
                                                                                bd (ld1 st26 v57) fun v58 =>
                                                                                  LCalls Tryd.prog 31 [x0, v58] st26 fun _v59 st60 =>
                                                                                    P25_1 x0 x1 x2 x3 x9 R
                                                                                      st60)
                                                                            (bd (lnilCheck x0) fun v61 =>
                                                                              bd (fAddr 1 v61) fun v62 =>
                                                                                bd (ld1 st26 v62) fun v63 =>
                                                                                  bd (bInt BinOp.add v63 (LV.int IntKind.i64 1)) fun v64 =>
                                                                                    bd (lnilCheck x0) fun v65 =>
                                                                                      bd (fAddr 1 v65) fun v66 =>
                                                                                        bd2 (lmk (stV st26 1 v66 v64)) fun _v67 st68 =>
                                                                                          P25_1 x0 x1 x2 x3 x9 R
                                                                                            st68)))
                                                            (bd (lnilCheck x0) fun v69 =>
                                                              bd (fAddr 1 v69) fun v70 =>
                                                                bd (ld1 st26 v70) fun v71 =>
                                                                  bd (bInt BinOp.gtr v71 x9) fun v72 =>
                                                                    bsel v72
                                                                      (bd2 (lclo x2 [v18]) fun f73 xs74 =>
                                                                        LCalls Tryd.prog f73 xs74 st26 fun v75 st76 =>
                                                                          bd (lun UnOp.not v75) fun v77 =>
                                                                            bsel v77
                                                                              (bd (lnilCheck x0) fun v78 =>
                                                                                bd (fAddr 1 v78) fun v79 =>
                                                                                  bd (ld1 st76 v79) fun v80 =>
                                                                                    bd (bInt BinOp.eql v80 x9) fun v81 =>
                                                                                      bsel v81
                                                                                        (bd (lnilCheck x0) fun v82 =>
                                                                                          bd (fAddr 1 v82) fun v83 =>
                                                                                            bd (ld1 st76 v83) fun v84 =>
                                                                                              LCalls Tryd.prog 31 [x0, v84] st76 fun _v85 st86 =>
                                                                                                bd (lnilCheck x0) fun v87 =>
                                                                                                  bd (fAddr 0 v87) fun v88 =>
                                                                                                    bd (ld1 st86 v88) fun v89 =>
                                                                                                      bd (lnilCheck x0) fun v90 =>
                                                                                                        bd (fAddr 1 v90) fun v91 =>
                                                                                                          bd (ld1 st86 v91) fun v92 =>
                                                                                                            bd (ob3 (some x9) (some v92) none fun l h m => slStr v89 l h m) fun v93 =>
                                                                                                              R v93 st86)
                                                                                        (bd (lnilCheck x0) fun v94 =>
                                                                                          bd (fAddr 0 v94) fun v95 =>
                                                                                            bd (ld1 st76 v95) fun v96 =>
                                                                                              bd (lnilCheck x0) fun v97 =>
                                                                                                bd (fAddr 1 v97) fun v98 =>
                                                                                                  bd (ld1 st76 v98) fun v99 =>
                                                                                                    bd (ob3 (some x9) (some v99) none fun l h m => slStr v96 l h m) fun v100 =>
                                                                                                      R v100 st76))
                                                                              (bd (lnilCheck x0) fun v101 =>
                                                                                bd (fAddr 1 v101) fun v102 =>
                                                                                  bd (ld1 st76 v102) fun v103 =>
                                                                                    bd (bInt BinOp.sub v103 x9) fun v104 =>
                                                                                      bd (bInt BinOp.eql v104 x3) fun v105 =>
                                                                                        bsel v105
                                                                                          (bd (lnilCheck x0) fun v106 =>
                                                                                            bd (fAddr 1 v106) fun v107 =>
                                                                                              bd (ld1 st76 v107) fun v108 =>
                                                                                                LCalls Tryd.prog 31 [x0, v108] st76 fun _v109 st110 =>
                                                                                                  P25_1 x0 x1 x2 x3 x9 R
                                                                                                    st110)
                                                                                          (bd (lnilCheck x0) fun v111 =>
                                                                                            bd (fAddr 1 v111) fun v112 =>
                                                                                              bd (ld1 st76 v112) fun v113 =>
                                                                                                bd (bInt BinOp.add v113 (LV.int IntKind.i64 1)) fun v114 =>
                                                                                                  bd (lnilCheck x0) fun v115 =>
                                                                                                    bd (fAddr 1 v115) fun v116 =>
                                                                                                      bd2 (lmk (stV st76 1 v116 v114)) fun _v117 st118 =>
                                                                                                        P25_1 x0 x1 x2 x3 x9 R
                                                                                                          st118)))
                                                                      (bd (lun UnOp.not (LV.bool false)) fun v119 =>
                                                                        bsel v119
                                                                          (bd (lnilCheck x0) fun v120 =>
                                                                            bd (fAddr 1 v120) fun v121 =>
                                                                              bd (ld1 st26 v121) fun v122 =>
                                                                                bd (bInt BinOp.eql v122 x9) fun v123 =>
                                                                                  bsel v123
                                                                                    (bd (lnilCheck x0) fun v124 =>
                                                                                      bd (fAddr 1 v124) fun v125 =>
                                                                                        bd (ld1 st26 v125) fun v126 =>
                                                                                          LCalls Tryd.prog 31 [x0, v126] st26 fun _v127 st128 =>
                                                                                            bd (lnilCheck x0) fun v129 =>
                                                                                              bd (fAddr 0 v129) fun v130 =>
                                                                                                bd (ld1 st128 v130) fun v131 =>
                                                                                                  bd (lnilCheck x0) fun v132 =>
                                                                                                    bd (fAddr 1 v132) fun v133 =>
                                                                                                      bd (ld1 st128 v133) fun v134 =>
                                                                                                        bd (ob3 (some x9) (some v134) none fun l h m => slStr v131 l h m) fun v135 =>
                                                                                                          R v135 st128)
                                                                                    (bd (lnilCheck x0) fun v136 =>
                                                                                      bd (fAddr 0 v136) fun v137 =>
                                                                                        bd (ld1 st26 v137) fun v138 =>
                                                                                          bd (lnilCheck x0) fun v139 =>
                                                                                            bd (fAddr 1 v139) fun v140 =>
                                                                                              bd (ld1 st26 v140) fun v141 =>
                                                                                                bd (ob3 (some x9) (some v141) none fun l h m => slStr v138 l h m) fun v142 =>
                                                                                                  R v142 st26))
                                                                          (bd (lnilCheck x0) fun v143 =>
                                                                            bd (fAddr 1 v143) fun v144 =>
                                                                              bd (ld1 st26 v144) fun v145 =>
                                                                                bd (bInt BinOp.sub v145 x9) fun v146 =>
                                                                                  bd (bInt BinOp.eql v146 x3) fun v147 =>
                                                                                    bsel v147
                                                                                      (bd (lnilCheck x0) fun v148 =>
                                                                                        bd (fAddr 1 v148) fun v149 =>
                                                                                          bd (ld1 st26 v149) fun v150 =>
                                                                                            LCalls Tryd.prog 31 [x0, v150] st26 fun _v151 st152 =>
                                                                                              P25_1 x0 x1 x2 x3 x9 R
                                                                                                st152)
                                                                                      (bd (lnilCheck x0) fun v153 =>
                                                                                        bd (fAddr 1 v153) fun v154 =>
                                                                                          bd (ld1 st26 v154) fun v155 =>
                                                                                            bd (bInt BinOp.add v155 (LV.int IntKind.i64 1)) fun v156 =>
                                                                                              bd (lnilCheck x0) fun v157 =>
                                                                                                bd (fAddr 1 v157) fun v158 =>
                                                                                                  bd2 (lmk (stV st26 1 v158 v156)) fun _v159 st160 =>
                                                                                                    P25_1 x0 x1 x2 x3 x9 R
                                                                                                      st160)))))
                                                      (bd (lnilCheck x0) fun v161 =>
                                                        bd (fAddr 1 v161) fun v162 =>
                                                          bd (ld1 st v162) fun v163 =>
                                                            bd (bInt BinOp.gtr v163 x9) fun v164 =>
                                                              bsel v164
                                                                (bd2 (lclo x2 [v18]) fun f165 xs166 =>
                                                                  LCalls Tryd.prog f165 xs166 st fun v167 st168 =>
                                                                    bd (lun UnOp.not v167) fun v169 =>
                                                                      bsel v169
                                                                        (bd (lnilCheck x0) fun v170 =>
                                                                          bd (fAddr 1 v170) fun v171 =>
                                                                            bd (ld1 st168 v171) fun v172 =>
                                                                              bd (bInt BinOp.eql v172 x9) fun v173 =>
                                                                                bsel v173
                                                                                  (bd (lnilCheck x0) fun v174 =>
                                                                                    bd (fAddr 1 v174) fun v175 =>
                                                                                      bd (ld1 st168 v175) fun v176 =>
                                                                                        LCalls Tryd.prog 31 [x0, v176] st168 fun _v177 st178 =>
                                                                                          bd (lnilCheck x0) fun v179 =>
                                                                                            bd (fAddr 0 v179) fun v180 =>
                                                                                              bd (ld1 st178 v180) fun v181 =>
                                                                                                bd (lnilCheck x0) fun v182 =>
                                                                                                  bd (fAddr 1 v182) fun v183 =>
                                                                                                    bd (ld1 st178 v183) fun v184 =>
                                                                                                      bd (ob3 (some x9) (some v184) none fun l h m => slStr v181 l h m) fun v185 =>
                                                                                                        R v185 st178)
                                                                                  (bd (lnilCheck x0) fun v186 =>
                                                                                    bd (fAddr 0 v186) fun v187 =>
                                                                                      bd (ld1 st168 v187) fun v188 =>
                                                                                        bd (lnilCheck x0) fun v189 =>
                                                                                          bd (fAddr 1 v189) fun v190 =>
                                                                                            bd (ld1 st168 v190) fun v191 =>
                                                                                              bd (ob3 (some x9) (some v191) none fun l h m => slStr v188 l h m) fun v192 =>
                                                                                                R v192 st168))
                                                                        (bd (lnilCheck x0) fun v193 =>
                                                                          bd (fAddr 1 v193) fun v194 =>
                                                                            bd (ld1 st168 v194) fun v195 =>
                                                                              bd (bInt BinOp.sub v195 x9) fun v196 =>
                                                                                bd (bInt BinOp.eql v196 x3) fun v197 =>
                                                                                  bsel v197
                                                                                    (bd (lnilCheck x0) fun v198 =>
                                                                                      bd (fAddr 1 v198) fun v199 =>
                                                                                        bd (ld1 st168 v199) fun v200 =>
                                                                                          LCalls Tryd.prog 31 [x0, v200] st168 fun _v201 st202 =>
                                                                                            P25_1 x0 x1 x2 x3 x9 R
                                                                                              st202)
                                                                                    (bd (lnilCheck x0) fun v203 =>
                                                                                      bd (fAddr 1 v203) fun v204 =>
                                                                                        bd (ld1 st168 v204) fun v205 =>
                                                                                          bd (bInt BinOp.add v205 (LV.int IntKind.i64 1)) fun v206 =>
                                                                                            bd (lnilCheck x0) fun v207 =>
                                                                                              bd (fAddr 1 v207) fun v208 =>
                                                                                                bd2 (lmk (stV st168 1 v208 v206)) fun _v209 st210 =>
                                                                                                  P25_1 x0 x1 x2 x3 x9 R
                                                                                                    st210)))
                                                                (bd (lun UnOp.not (LV.bool false)) fun v211 =>
                                                                  bsel v211
                                                                    (bd (lnilCheck x0) fun v212 =>
                                                                      bd (fAddr 1 v212) fun v213 =>
                                                                        bd (ld1 st v213) fun v214 =>
                                                                          bd (bInt BinOp.eql v214 x9) fun v215 =>
                                                                            bsel v215
                                                                              (bd (lnilCheck x0) fun v216 =>
                                                                                bd (fAddr 1 v216) fun v217 =>
                                                                                  bd (ld1 st v217) fun v218 =>
                                                                                    LCalls Tryd.prog 31 [x0, v218] st fun _v219 st220 =>
                                                                                      bd (lnilCheck x0) fun v221 =>
                                                                                        bd (fAddr 0 v221) fun v222 =>
                                                                                          bd (ld1 st220 v222) fun v223 =>
                                                                                            bd (lnilCheck x0) fun v224 =>
                                                                                              bd (fAddr 1 v224) fun v225 =>
                                                                                                bd (ld1 st220 v225) fun v226 =>
                                                                                                  bd (ob3 (some x9) (some v226) none fun l h m => slStr v223 l h m) fun v227 =>
                                                                                                    R v227 st220)
                                                                              (bd (lnilCheck x0) fun v228 =>
                                                                                bd (fAddr 0 v228) fun v229 =>
                                                                                  bd (ld1 st v229) fun v230 =>
                                                                                    bd (lnilCheck x0) fun v231 =>
                                                                                      bd (fAddr 1 v231) fun v232 =>
                                                                                        bd (ld1 st v232) fun v233 =>
                                                                                          bd (ob3 (some x9) (some v233) none fun l h m => slStr v230 l h m) fun v234 => R v234 st))
                                                                    (bd (lnilCheck x0) fun v235 =>
                                                                      bd (fAddr 1 v235) fun v236 =>
                                                                        bd (ld1 st v236) fun v237 =>
                                                                          bd (bInt BinOp.sub v237 x9) fun v238 =>
                                                                            bd (bInt BinOp.eql v238 x3) fun v239 =>
                                                                              bsel v239
                                                                                (bd (lnilCheck x0) fun v240 =>
                                                                                  bd (fAddr 1 v240) fun v241 =>
                                                                                    bd (ld1 st v241) fun v242 =>
                                                                                      LCalls Tryd.prog 31 [x0, v242] st fun _v243 st244 =>
                                                                                        P25_1 x0 x1 x2 x3 x9 R
                                                                                          st244)
                                                                                (bd (lnilCheck x0) fun v245 =>
                                                                                  bd (fAddr 1 v245) fun v246 =>
                                                                                    bd (ld1 st v246) fun v247 =>
                                                                                      bd (bInt BinOp.add v247 (LV.int IntKind.i64 1)) fun v248 =>
                                                                                        bd (lnilCheck x0) fun v249 =>
                                                                                          bd (fAddr 1 v249) fun v250 =>
                                                                                            bd2 (lmk (stV st 1 v250 v248)) fun _v251 st252 =>
                                                                                              P25_1 x0 x1 x2 x3 x9 R
                                                                                                st252)))))
                              (bd (lnilCheck x0) fun v253 =>
                                bd (fAddr 1 v253) fun v254 =>
                                  bd (ld1 st v254) fun v255 =>
                                    bd (bInt BinOp.eql v255 x9) fun v256 =>
                                      bsel v256
                                        (bd (lnilCheck x0) fun v257 =>
                                          bd (fAddr 1 v257) fun v258 =>
                                            bd (ld1 st v258) fun v259 =>
                                              LCalls Tryd.prog 31 [x0, v259] st fun _v260 st261 =>
                                                bd (lnilCheck x0) fun v262 =>
                                                  bd (fAddr 0 v262) fun v263 =>
                                                    bd (ld1 st261 v263) fun v264 =>
                                                      bd (lnilCheck x0) fun v265 =>
                                                        bd (fAddr 1 v265) fun v266 =>
                                                          bd (ld1 st261 v266) fun v267 => bd (ob3 (some x9) (some v267) none fun l h m => slStr v264 l h m) fun v268 => R v268 st261)
                                        (bd (lnilCheck x0) fun v269 =>
                                          bd (fAddr 0 v269) fun v270 =>
                                            bd (ld1 st v270) fun v271 =>
                                              bd (lnilCheck x0) fun v272 =>
                                                bd (fAddr 1 v272) fun v273 =>
                                                  bd (ld1 st v273) fun v274 => bd (ob3 (some x9) (some v274) none fun l h m => slStr v271 l h m) fun v275 => R v275 st)))
            (bd (lnilCheck x0) fun v276 =>
              bd (fAddr 1 v276) fun v277 =>
                bd (ld1 st v277) fun v278 =>
                  bd (bInt BinOp.eql v278 x9) fun v279 =>
                    bsel v279
                      (bd (lnilCheck x0) fun v280 =>
                        bd (fAddr 1 v280) fun v281 =>
                          bd (ld1 st v281) fun v282 =>
                            LCalls Tryd.prog 31 [x0, v282] st fun _v283 st284 =>
                              bd (lnilCheck x0) fun v285 =>
                                bd (fAddr 0 v285) fun v286 =>
                                  bd (ld1 st284 v286) fun v287 =>
                                    bd (lnilCheck x0) fun v288 =>
                                      bd (fAddr 1 v288) fun v289 =>
                                        bd (ld1 st284 v289) fun v290 => bd (ob3 (some x9) (some v290) none fun l h m => slStr v287 l h m) fun v291 => R v291 st284)
                      (bd (lnilCheck x0) fun v292 =>
                        bd (fAddr 0 v292) fun v293 =>
                          bd (ld1 st v293) fun v294 =>
                            bd (lnilCheck x0) fun v295 =>
                              bd (fAddr 1 v295) fun v296 => bd (ld1 st v296) fun v297 => bd (ob3 (some x9) (some v297) none fun l h m => slStr v294 l h m) fun v298 => R v298 st))
theorem w25_1_eq (x0 x1 x2 x3 x9 : LV) (R : LV → LState → Prop) (st : LState) : levT Tryd.prog [.tmp 8] R [4, 5, 6, 7, 8, 10, 11, 12, 13, 14, 15, 16, 17, 18, 19, 20, 21, 22, 23, 24, 25, 26, 27, 28, 29, 30, 31, 32, 33, 34, 35, 36, 37, 38, 39, 40, 41, 42, 43, 44, 45, 46, 47, 48, 49, 50, 51, 52, 53, 54, 55, 56, 57, 58, 59, 60, 61, 62, 63, 64, 65, 66, 67, 68, 69, 70, 71, 72, 73, 74, 75, 76, 77, 78, 79, 80, 81, 82, 83, 84, 85, 86, 87, 88, 89, 90, 91, 92, 93, 94, 95, 96, 97, 98, 99, 100, 101, 102, 103, 104, 105, 106, 107, 108, 109, 110] [] 3000 (stepIn (pointN Tryd.f25 1)) [x0, x1, x2, x3, .junk, .junk, .junk, .junk, .junk, x9, .junk, .junk, .junk, .junk, .junk, .junk, .junk, .junk, .junk, .junk, .junk, .junk, .junk, .junk, .junk, .junk, .junk, .junk, .junk, .junk, .junk, .junk, .junk, .junk, .junk, .junk, .junk, .junk, .junk, .junk, .junk, .junk, .junk, .junk, .junk, .junk, .junk, .junk, .junk, .junk, .junk, .junk, .junk, .junk, .junk, .junk, .junk, .junk, .junk, .junk, .junk, .junk, .junk, .junk, .junk, .junk, .junk, .junk, .junk, .junk, .junk, .junk, .junk, .junk, .junk, .junk, .junk, .junk, .junk, .junk, .junk, .junk, .junk, .junk, .junk, .junk, .junk, .junk, .junk, .junk, .junk, .junk, .junk, .junk, .junk, .junk, .junk, .junk, .junk, .junk, .junk, .junk, .junk, .junk, .junk, .junk, .junk, .junk, .junk, .junk, .junk] st = w25_1 x0 x1 x2 x3 x9 R st := by kernel_rfl
theorem p25_1 (x0 x1 x2 x3 x9 : LV) {R : LV → LState → Prop} {st : LState} (h : w25_1 x0 x1 x2 x3 x9 R st) : P25_1 x0 x1 x2 x3 x9 R st :=
  LT.at cm_mixed 3000 (Eq.mpr (w25_1_eq x0 x1 x2 x3 x9 R st) h)

/-- flange.address.letter -/
def w26 (a0 : LV) (R : LV → LState → Prop) (st : LState) : Prop :=
  bd (bInt BinOp.geq a0 (LV.int IntKind.u8 97)) fun v0 => bsel v0 (bd (bInt BinOp.leq a0 (LV.int IntKind.u8 122)) fun v1 => R v1 st) (R (LV.bool false) st)
theorem w26_eq (a0 : LV) (R : LV → LState → Prop) (st : LState) : levT Tryd.prog [.tmp 2] R [] [] 3000 [.code (bodyOf Tryd.f26)] ([a0] ++ List.replicate (Tryd.f26.ntmps - 1) lundef) st = w26 a0 R st := by kernel_rfl
theorem c26 (a0 : LV) {R : LV → LState → Prop} {st : LState} (h : w26 a0 R st) : LCalls Tryd.prog 26 [a0] st R :=
  LCalls.of cm_mixed Tryd.func26 (show Tryd.f26.body = some (bodyOf Tryd.f26) by kernel_rfl) (by kernel_rfl) (show Tryd.f26.results.toList = [.tmp 2] by kernel_rfl) (levT_sound cm_mixed 3000 (Eq.mpr (w26_eq a0 R st) h))

/-- flange.address.either -/
def w27 (a0 : LV) (R : LV → LState → Prop) (st : LState) : Prop :=
  LCalls Tryd.prog 26 [a0] st fun v0 st1 => bsel v0 (R (LV.bool true) st1) (LCalls Tryd.prog 44 [a0] st1 fun v2 st3 => R v2 st3)
theorem w27_eq (a0 : LV) (R : LV → LState → Prop) (st : LState) : levT Tryd.prog [.tmp 2] R [] [] 3000 [.code (bodyOf Tryd.f27)] ([a0] ++ List.replicate (Tryd.f27.ntmps - 1) lundef) st = w27 a0 R st := by kernel_rfl
theorem c27 (a0 : LV) {R : LV → LState → Prop} {st : LState} (h : w27 a0 R st) : LCalls Tryd.prog 27 [a0] st R :=
  LCalls.of cm_mixed Tryd.func27 (show Tryd.f27.body = some (bodyOf Tryd.f27) by kernel_rfl) (by kernel_rfl) (show Tryd.f27.results.toList = [.tmp 2] by kernel_rfl) (levT_sound cm_mixed 3000 (Eq.mpr (w27_eq a0 R st) h))

/-- (*flange.address.reader).must -/
def w28 (a0 a1 : LV) (R : LV → LState → Prop) (st : LState) : Prop :=
  LCalls Tryd.prog 29 [a0, a1] st fun v0 st1 =>
    bd (lun UnOp.not v0) fun v2 =>
      bsel v2 (bd (lnilCheck a0) fun v3 => bd (fAddr 1 v3) fun v4 => bd (ld1 st1 v4) fun v5 => LCalls Tryd.prog 31 [a0, v5] st1 fun _v6 st7 => R (LV.tup []) st7) (R (LV.tup []) st1)
theorem w28_eq (a0 a1 : LV) (R : LV → LState → Prop) (st : LState) : levT Tryd.prog [] R [] [] 3000 [.code (bodyOf Tryd.f28)] ([a0, a1] ++ List.replicate (Tryd.f28.ntmps - 2) lundef) st = w28 a0 a1 R st := by kernel_rfl
theorem c28 (a0 a1 : LV) {R : LV → LState → Prop} {st : LState} (h : w28 a0 a1 R st) : LCalls Tryd.prog 28 [a0, a1] st R :=
  LCalls.of cm_mixed Tryd.func28 (show Tryd.f28.body = some (bodyOf Tryd.f28) by kernel_rfl) (by kernel_rfl) (show Tryd.f28.results.toList = [] by kernel_rfl) (levT_sound cm_mixed 3000 (Eq.mpr (w28_eq a0 a1 R st) h))

/-- (*flange.address.reader).is -/
def w29 (a0 a1 : LV) (R : LV → LState → Prop) (st : LState) : Prop :=
  bd (lnilCheck a0) fun v0 =>
    bd (fAddr 2 v0) fun v1 =>
      bd (ld1 st v1) fun v2 =>
        bsel v2 (R (LV.bool false) st)
          (bd (lnilCheck a0) fun v3 =>
            bd (fAddr 1 v3) fun v4 =>
              bd (ld1 st v4) fun v5 =>
                bd (lnilCheck a0) fun v6 =>
                  bd (fAddr 0 v6) fun v7 =>
                    bd (ld1 st v7) fun v8 =>
                      bd (lenStr v8) fun v9 =>
                        bd (bInt BinOp.geq v5 v9) fun v10 =>
                          bsel v10 (R (LV.bool false) st)
                            (bd (lnilCheck a0) fun v11 =>
                              bd (fAddr 0 v11) fun v12 =>
                                bd (ld1 st v12) fun v13 =>
                                  bd (lnilCheck a0) fun v14 =>
                                    bd (fAddr 1 v14) fun v15 =>
                                      bd (ld1 st v15) fun v16 =>
                                        bd (ixStr v13 v16) fun v17 =>
                                          bd (bInt BinOp.neq v17 a1) fun v18 =>
                                            bsel v18 (R (LV.bool false) st)
                                              (bd (lnilCheck a0) fun v19 =>
                                                bd (fAddr 1 v19) fun v20 =>
                                                  bd (ld1 st v20) fun v21 =>
                                                    bd (bInt BinOp.add v21 (LV.int IntKind.i64 1)) fun v22 =>
                                                      bd (lnilCheck a0) fun v23 => bd (fAddr 1 v23) fun v24 => bd2 (lmk (stV st 1 v24 v22)) fun _v25 st26 => R (LV.bool true) st26)))
theorem w29_eq (a0 a1 : LV) (R : LV → LState → Prop) (st : LState) : levT Tryd.prog [.tmp 4] R [] [] 3000 [.code (bodyOf Tryd.f29)] ([a0, a1] ++ List.replicate (Tryd.f29.ntmps - 2) lundef) st = w29 a0 a1 R st := by kernel_rfl
theorem c29 (a0 a1 : LV) {R : LV → LState → Prop} {st : LState} (h : w29 a0 a1 R st) : LCalls Tryd.prog 29 [a0, a1] st R :=
  LCalls.of cm_mixed Tryd.func29 (show Tryd.f29.body = some (bodyOf Tryd.f29) by kernel_rfl) (by kernel_rfl) (show Tryd.f29.results.toList = [.tmp 4] by kernel_rfl) (levT_sound cm_mixed 3000 (Eq.mpr (w29_eq a0 a1 R st) h))

/-- (*flange.address.reader).index -/
def w30 (a0 : LV) (R : LV → LState → Prop) (st : LState) : Prop :=
  bd (lnilCheck a0) fun v0 =>
    bd (fAddr 1 v0) fun v1 =>
      bd (ld1 st v1) fun v2 =>
        LCalls Tryd.prog 25 [a0, LV.fn (Fn.func 44) [] [], LV.fn (Fn.func 44) [] [], LV.int IntKind.i64 3] st fun v3 st4 =>
          LCalls Tryd.prog 45 [v3] st4 fun v5 st6 =>
            bd (lextract v5 0) fun v7 =>
              bd (lextract v5 1) fun _v8 =>
                bd (lnilCheck a0) fun v9 =>
                  bd (fAddr 2 v9) fun v10 =>
                    bd (ld1 st6 v10) fun v11 =>
                      bd (lun UnOp.not v11) fun v12 =>
                        bsel v12
                          (LCalls Tryd.prog 35 [v7] st6 fun v13 st14 =>
                            bd (bStr BinOp.neq v13 v3) fun v15 =>
                              bsel v15 (LCalls Tryd.prog 31 [a0, v2] st14 fun _v16 st17 => LCalls Tryd.prog 28 [a0, LV.int IntKind.u8 93] st17 fun _v18 st19 => R v7 st19)
                                (LCalls Tryd.prog 28 [a0, LV.int IntKind.u8 93] st14 fun _v20 st21 => R v7 st21))
                          (LCalls Tryd.prog 28 [a0, LV.int IntKind.u8 93] st6 fun _v22 st23 => R v7 st23)
theorem w30_eq (a0 : LV) (R : LV → LState → Prop) (st : LState) : levT Tryd.prog [.tmp 2] R [] [] 3000 [.code (bodyOf Tryd.f30)] ([a0] ++ List.replicate (Tryd.f30.ntmps - 1) lundef) st = w30 a0 R st := by kernel_rfl
theorem c30 (a0 : LV) {R : LV → LState → Prop} {st : LState} (h : w30 a0 R st) : LCalls Tryd.prog 30 [a0] st R :=
  LCalls.of cm_mixed Tryd.func30 (show Tryd.f30.body = some (bodyOf Tryd.f30) by kernel_rfl) (by kernel_rfl) (show Tryd.f30.results.toList = [.tmp 2] by kernel_rfl) (levT_sound cm_mixed 3000 (Eq.mpr (w30_eq a0 R st) h))

/-- (*flange.address.reader).fail -/
def w31 (a0 a1 : LV) (R : LV → LState → Prop) (st : LState) : Prop :=
  bd (lnilCheck a0) fun v0 =>
    bd (fAddr 2 v0) fun v1 =>
      bd (ld1 st v1) fun v2 =>
        bd (lun UnOp.not v2) fun v3 =>
          bsel v3
            (bd (lnilCheck a0) fun v4 =>
              bd (fAddr 1 v4) fun v5 =>
                bd2 (lmk (stV st 1 v5 a1)) fun _v6 st7 =>
                  bd (lnilCheck a0) fun v8 => bd (fAddr 2 v8) fun v9 => bd2 (lmk (stV st7 1 v9 (LV.bool true))) fun _v10 st11 => R (LV.tup []) st11)
            (R (LV.tup []) st)
theorem w31_eq (a0 a1 : LV) (R : LV → LState → Prop) (st : LState) : levT Tryd.prog [] R [] [] 3000 [.code (bodyOf Tryd.f31)] ([a0, a1] ++ List.replicate (Tryd.f31.ntmps - 2) lundef) st = w31 a0 a1 R st := by kernel_rfl
theorem c31 (a0 a1 : LV) {R : LV → LState → Prop} {st : LState} (h : w31 a0 a1 R st) : LCalls Tryd.prog 31 [a0, a1] st R :=
  LCalls.of cm_mixed Tryd.func31 (show Tryd.f31.body = some (bodyOf Tryd.f31) by kernel_rfl) (by kernel_rfl) (show Tryd.f31.results.toList = [] by kernel_rfl) (levT_sound cm_mixed 3000 (Eq.mpr (w31_eq a0 a1 R st) h))

/-- flange.flangeref17.lettered -/
def w32 (a0 a1 : LV) (R : LV → LState → Prop) (st : LState) : Prop :=
  bd (bInt BinOp.geq a0 (LV.int IntKind.u8 97)) fun v0 =>
    bsel v0
      (bd (bInt BinOp.leq a0 (LV.int IntKind.u8 122)) fun v1 =>
        bsel v1 (R (LV.bool true) st)
          (bd (bInt BinOp.gtr a1 (LV.int IntKind.i64 0)) fun v2 =>
            bsel v2 (bd (bInt BinOp.geq a0 (LV.int IntKind.u8 48)) fun v3 => bsel v3 (bd (bInt BinOp.leq a0 (LV.int IntKind.u8 57)) fun v4 => R v4 st) (R (LV.bool false) st))
              (R (LV.bool false) st)))
      (bd (bInt BinOp.gtr a1 (LV.int IntKind.i64 0)) fun v5 =>
        bsel v5 (bd (bInt BinOp.geq a0 (LV.int IntKind.u8 48)) fun v6 => bsel v6 (bd (bInt BinOp.leq a0 (LV.int IntKind.u8 57)) fun v7 => R v7 st) (R (LV.bool false) st))
          (R (LV.bool false) st))
theorem w32_eq (a0 a1 : LV) (R : LV → LState → Prop) (st : LState) : levT Tryd.prog [.tmp 4] R [] [] 3000 [.code (bodyOf Tryd.f32)] ([a0, a1] ++ List.replicate (Tryd.f32.ntmps - 2) lundef) st = w32 a0 a1 R st := by kernel_rfl
theorem c32 (a0 a1 : LV) {R : LV → LState → Prop} {st : LState} (h : w32 a0 a1 R st) : LCalls Tryd.prog 32 [a0, a1] st R :=
  LCalls.of cm_mixed Tryd.func32 (show Tryd.f32.body = some (bodyOf Tryd.f32) by kernel_rfl) (by kernel_rfl) (show Tryd.f32.results.toList = [.tmp 4] by kernel_rfl) (levT_sound cm_mixed 3000 (Eq.mpr (w32_eq a0 a1 R st) h))

/-- flange.kind.Named -/
def w33 (a0 : LV) (R : LV → LState → Prop) (st : LState) : Prop :=
  bd (lenStr a0) fun v0 =>
    P33_1 a0 v0 (LV.int IntKind.i64 0) R
      st
theorem w33_eq (a0 : LV) (R : LV → LState → Prop) (st : LState) : levT Tryd.prog [.tmp 2] R [1, 2, 3, 4, 5, 8, 9, 10, 11, 12, 13, 14, 15, 16, 17, 18, 19, 20, 21, 22, 23, 24, 25, 26, 27, 28, 29, 30, 31, 32, 33, 34, 35, 36, 37, 38, 39] [] 3000 [.code (bodyOf Tryd.f33)] ([a0] ++ List.replicate (Tryd.f33.ntmps - 1) lundef) st = w33 a0 R st := by kernel_rfl
theorem c33 (a0 : LV) {R : LV → LState → Prop} {st : LState} (h : w33 a0 R st) : LCalls Tryd.prog 33 [a0] st R :=
  LCalls.of cm_mixed Tryd.func33 (show Tryd.f33.body = some (bodyOf Tryd.f33) by kernel_rfl) (by kernel_rfl) (show Tryd.f33.results.toList = [.tmp 2] by kernel_rfl) (levT_sound cm_mixed 3000 (Eq.mpr (w33_eq a0 R st) h))

/-- flange.kind.Named, from point 1 on -/
def w33_1 (x0 x6 x7 : LV) (R : LV → LState → Prop) (st : LState) : Prop :=
  bd (bInt BinOp.lss x7 x6) fun v0 =>
    bsel v0
      (bd (ixStr x0 x7) fun v1 =>
        bd (bInt BinOp.geq v1 (LV.int IntKind.u8 97)) fun v2 =>
          bsel v2
            (bd (bInt BinOp.leq v1 (LV.int IntKind.u8 122)) fun v3 =>
              bsel v3
                (bd (lun UnOp.not (LV.bool true)) fun v4 =>
                  bsel v4 (R (LV.bool false) st)
                    (bd (bInt BinOp.add x7 (LV.int IntKind.i64 1)) fun v5 =>
                      P33_1 x0 x6 v5 R
                        st))
                (bd (bInt BinOp.gtr x7 (LV.int IntKind.i64 0)) fun v6 =>
                  bsel v6
                    (bd (bInt BinOp.geq v1 (LV.int IntKind.u8 48)) fun v7 =>
                      bsel v7
                        (bd (bInt BinOp.leq v1 (LV.int IntKind.u8 57)) fun v8 =>
                          bd (lun UnOp.not v8) fun v9 =>
                            bsel v9 (R (LV.bool false) st)
                              (bd (bInt BinOp.add x7 (LV.int IntKind.i64 1)) fun v10 =>
                                P33_1 x0 x6 v10 R
                                  st))
                        (bd (lun UnOp.not (LV.bool false)) fun v11 =>
                          bsel v11 (R (LV.bool false) st)
                            (bd (bInt BinOp.add x7 (LV.int IntKind.i64 1)) fun v12 =>
                              P33_1 x0 x6 v12 R
                                st)))
                    (bd (lun UnOp.not (LV.bool false)) fun v13 =>
                      bsel v13 (R (LV.bool false) st)
                        (bd (bInt BinOp.add x7 (LV.int IntKind.i64 1)) fun v14 =>
                          P33_1 x0 x6 v14 R
                            st))))
            (bd (bInt BinOp.gtr x7 (LV.int IntKind.i64 0)) fun v15 =>
              bsel v15
                (bd (bInt BinOp.geq v1 (LV.int IntKind.u8 48)) fun v16 =>
                  bsel v16
                    (bd (bInt BinOp.leq v1 (LV.int IntKind.u8 57)) fun v17 =>
                      bd (lun UnOp.not v17) fun v18 =>
                        bsel v18 (R (LV.bool false) st)
                          (bd (bInt BinOp.add x7 (LV.int IntKind.i64 1)) fun v19 =>
                            P33_1 x0 x6 v19 R
                              st))
                    (bd (lun UnOp.not (LV.bool false)) fun v20 =>
                      bsel v20 (R (LV.bool false) st)
                        (bd (bInt BinOp.add x7 (LV.int IntKind.i64 1)) fun v21 =>
                          P33_1 x0 x6 v21 R
                            st)))
                (bd (lun UnOp.not (LV.bool false)) fun v22 =>
                  bsel v22 (R (LV.bool false) st)
                    (bd (bInt BinOp.add x7 (LV.int IntKind.i64 1)) fun v23 =>
                      P33_1 x0 x6 v23 R
                        st))))
      (bd (bStr BinOp.neq x0 (LV.str [])) fun v24 => bsel v24 (bd (lenStr x0) fun v25 => bd (bInt BinOp.leq v25 (LV.int IntKind.i64 20)) fun v26 => R v26 st) (R (LV.bool false) st))
theorem w33_1_eq (x0 x6 x7 : LV) (R : LV → LState → Prop) (st : LState) : levT Tryd.prog [.tmp 2] R [1, 2, 3, 4, 5, 8, 9, 10, 11, 12, 13, 14, 15, 16, 17, 18, 19, 20, 21, 22, 23, 24, 25, 26, 27, 28, 29, 30, 31, 32, 33, 34, 35, 36, 37, 38, 39] [] 3000 (stepIn (pointN Tryd.f33 1)) [x0, .junk, .junk, .junk, .junk, .junk, x6, x7, .junk, .junk, .junk, .junk, .junk, .junk, .junk, .junk, .junk, .junk, .junk, .junk, .junk, .junk, .junk, .junk, .junk, .junk, .junk, .junk, .junk, .junk, .junk, .junk, .junk, .junk, .junk, .junk, .junk, .junk, .junk, .junk] st = w33_1 x0 x6 x7 R st := by kernel_rfl
theorem p33_1 (x0 x6 x7 : LV) {R : LV → LState → Prop} {st : LState} (h : w33_1 x0 x6 x7 R st) : P33_1 x0 x6 x7 R st :=
  LT.at cm_mixed 3000 (Eq.mpr (w33_1_eq x0 x6 x7 R st) h)

/-- flange.flangeref05.Number -/
def w36 (a0 : LV) (R : LV → LState → Prop) (st : LState) : Prop :=
  bd (bInt BinOp.lss a0 (LV.int IntKind.i64 0)) fun v0 =>
    bsel v0
      (bd (bInt BinOp.eql a0 (LV.int IntKind.i64 (-9223372036854775808))) fun v1 =>
        bsel v1 (R (LV.str [45, 57, 50, 50, 51, 51, 55, 50, 48, 51, 54, 56, 53, 52, 55, 55, 53, 56, 48, 56]) st)
          (bd (lun UnOp.neg a0) fun v2 => LCalls Tryd.prog 36 [v2] st fun v3 st4 => bd (bStr BinOp.add (LV.str [45]) v3) fun v5 => R v5 st4))
      (P36_1 a0 (LV.str []) R
        st)
theorem w36_eq (a0 : LV) (R : LV → LState → Prop) (st : LState) : levT Tryd.prog [.tmp 2] R [1, 2, 4, 5, 6, 7, 8, 9, 10, 11, 12, 13, 14, 15, 16, 17, 18, 19, 20, 21, 22, 23, 24, 25, 26, 27, 28] [] 3000 [.code (bodyOf Tryd.f36)] ([a0] ++ List.replicate (Tryd.f36.ntmps - 1) lundef) st = w36 a0 R st := by kernel_rfl
theorem c36 (a0 : LV) {R : LV → LState → Prop} {st : LState} (h : w36 a0 R st) : LCalls Tryd.prog 36 [a0] st R :=
  LCalls.of cm_mixed Tryd.func36 (show Tryd.f36.body = some (bodyOf Tryd.f36) by kernel_rfl) (by kernel_rfl) (show Tryd.f36.results.toList = [.tmp 2] by kernel_rfl) (levT_sound cm_mixed 3000 (Eq.mpr (w36_eq a0 R st) h))

/-- flange.flangeref05.Number, from point 1 on -/
def w36_1 (x0 x3 : LV) (R : LV → LState → Prop) (st : LState) : Prop :=
  bd (bStr BinOp.eql x3 (LV.str [])) fun v0 =>
    bsel v0
      (bd (bInt BinOp.rem x0 (LV.int IntKind.i64 10)) fun v1 =>
        bd (bInt BinOp.add (LV.int IntKind.i64 48) v1) fun v2 =>
          bd (cvInt IntKind.u8 v2) fun v3 =>
            bd2 (slNew st 1 (lfill (fun i => some (i * 1, 1)) (List.replicate 1 [LV.int IntKind.u8 0]).flatten [(0, v3)])) fun v4 st5 =>
              bd (lbytesStr st5 v4) fun v6 =>
                bd (bStr BinOp.add v6 x3) fun v7 =>
                  bd (bInt BinOp.quo x0 (LV.int IntKind.i64 10)) fun v8 =>
                    P36_1 v8 v7 R
                      st5)
      (bd (bInt BinOp.gtr x0 (LV.int IntKind.i64 0)) fun v9 =>
        bsel v9
          (bd (bInt BinOp.rem x0 (LV.int IntKind.i64 10)) fun v10 =>
            bd (bInt BinOp.add (LV.int IntKind.i64 48) v10) fun v11 =>
              bd (cvInt IntKind.u8 v11) fun v12 =>
                bd2 (slNew st 1 (lfill (fun i => some (i * 1, 1)) (List.replicate 1 [LV.int IntKind.u8 0]).flatten [(0, v12)])) fun v13 st14 =>
                  bd (lbytesStr st14 v13) fun v15 =>
                    bd (bStr BinOp.add v15 x3) fun v16 =>
                      bd (bInt BinOp.quo x0 (LV.int IntKind.i64 10)) fun v17 =>
                        P36_1 v17 v16 R
                          st14)
          (R x3 st))
theorem w36_1_eq (x0 x3 : LV) (R : LV → LState → Prop) (st : LState) : levT Tryd.prog [.tmp 2] R [1, 2, 4, 5, 6, 7, 8, 9, 10, 11, 12, 13, 14, 15, 16, 17, 18, 19, 20, 21, 22, 23, 24, 25, 26, 27, 28] [] 3000 (stepIn (pointN Tryd.f36 1)) [x0, .junk, .junk, x3, .junk, .junk, .junk, .junk, .junk, .junk, .junk, .junk, .junk, .junk, .junk, .junk, .junk, .junk, .junk, .junk, .junk, .junk, .junk, .junk, .junk, .junk, .junk, .junk, .junk] st = w36_1 x0 x3 R st := by kernel_rfl
theorem p36_1 (x0 x3 : LV) {R : LV → LState → Prop} {st : LState} (h : w36_1 x0 x3 R st) : P36_1 x0 x3 R st :=
  LT.at cm_mixed 3000 (Eq.mpr (w36_1_eq x0 x3 R st) h)

/-- flange.address.digit -/
def w44 (a0 : LV) (R : LV → LState → Prop) (st : LState) : Prop :=
  bd (bInt BinOp.geq a0 (LV.int IntKind.u8 48)) fun v0 => bsel v0 (bd (bInt BinOp.leq a0 (LV.int IntKind.u8 57)) fun v1 => R v1 st) (R (LV.bool false) st)
theorem w44_eq (a0 : LV) (R : LV → LState → Prop) (st : LState) : levT Tryd.prog [.tmp 2] R [] [] 3000 [.code (bodyOf Tryd.f44)] ([a0] ++ List.replicate (Tryd.f44.ntmps - 1) lundef) st = w44 a0 R st := by kernel_rfl
theorem c44 (a0 : LV) {R : LV → LState → Prop} {st : LState} (h : w44 a0 R st) : LCalls Tryd.prog 44 [a0] st R :=
  LCalls.of cm_mixed Tryd.func44 (show Tryd.f44.body = some (bodyOf Tryd.f44) by kernel_rfl) (by kernel_rfl) (show Tryd.f44.results.toList = [.tmp 2] by kernel_rfl) (levT_sound cm_mixed 3000 (Eq.mpr (w44_eq a0 R st) h))

end Go.Proofs.YtkjmpjaahgficaaDoor
