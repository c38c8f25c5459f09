/- Walks over the clean machine: what each function does, printed by a program of this work (cmp.py) out of the loaded functions; each is checked by the kernel. -/
import Derived.Test.YtkjmpjaahgficaaDoorProg
import Derived.Test.YtkjmpjaahgficaaDoorCm24
namespace Go.Proofs.YtkjmpjaahgficaaDoor
open Go Go.CM
set_option maxRecDepth 100000
theorem cm_mixed : Tryd.prog.follows .mixedOrders = true := by kernel_rfl

/-- flange.flangelaw17.great -/
def w8 (a0 : LV) (R : LV → LState → Prop) (st : LState) : Prop :=
  bd2 (lbox st a0) fun v0 st1 =>
    bd (fAddr 0 v0) fun v2 =>
      bd (ld1 st1 v2) fun v3 =>
        bd (lenStr v3) fun v4 =>
          bd (bInt BinOp.gtr v4 (LV.int IntKind.i64 60)) fun v5 =>
            bsel v5 (R (LV.bool true) st1)
              (bd (fAddr 1 v0) fun v6 =>
                bd (ld1 st1 v6) fun v7 =>
                  bd (lenStr v7) fun v8 =>
                    bd (bInt BinOp.gtr v8 (LV.int IntKind.i64 60)) fun v9 =>
                      bsel v9 (R (LV.bool true) st1)
                        (bd (fAddr 2 v0) fun v10 => bd (ld1 st1 v10) fun v11 => bd (lenStr v11) fun v12 => bd (bInt BinOp.gtr v12 (LV.int IntKind.i64 60)) fun v13 => R v13 st1))
theorem w8_eq (a0 : LV) (R : LV → LState → Prop) (st : LState) : levT Tryd.prog [.tmp 2] R [] [] 3000 [.code (bodyOf Tryd.f8)] ([a0] ++ List.replicate (Tryd.f8.ntmps - 1) lundef) st = w8 a0 R st := by kernel_rfl
theorem c8 (a0 : LV) {R : LV → LState → Prop} {st : LState} (h : w8 a0 R st) : LCalls Tryd.prog 8 [a0] st R :=
  LCalls.of cm_mixed Tryd.func8 (show Tryd.f8.body = some (bodyOf Tryd.f8) by kernel_rfl) (by kernel_rfl) (show Tryd.f8.results.toList = [.tmp 2] by kernel_rfl) (levT_sound cm_mixed 3000 (Eq.mpr (w8_eq a0 R st) h))

/-- flange.flangelaw17.of -/
def w10 (a0 : LV) (R : LV → LState → Prop) (st : LState) : Prop :=
  bd2 (lbox st a0) fun v0 st1 =>
    nw st1 [LV.str [], LV.str [], LV.str [], LV.int IntKind.i64 0] fun v2 st3 =>
      bd (fAddr 0 v0) fun v4 =>
        bd (ld1 st3 v4) fun v5 =>
          bd (fAddr 1 v0) fun v6 =>
            bd (ld1 st3 v6) fun v7 =>
              bd (fAddr 2 v0) fun v8 =>
                bd (ld1 st3 v8) fun v9 =>
                  bd (mkAgg (lfill (fun i => some (i * 1, 1)) [LV.str [], LV.str [], LV.str []] [(0, v5), (1, v7), (2, v9)])) fun v10 =>
                    bd (fAddr 3 v0) fun v11 =>
                      bd (ld1 st3 v11) fun v12 =>
                        bd (mkAgg (lfill (placesL [(0, 3), (3, 1)]) [LV.str [], LV.str [], LV.str [], LV.int IntKind.i64 0] [(0, v10), (1, v12)])) fun v13 =>
                          bd2 (lmk (stV st3 4 v2 v13)) fun v14 st15 => bd (ldA st15 v2 4) fun v16 => R v16 st15
theorem w10_eq (a0 : LV) (R : LV → LState → Prop) (st : LState) : levT Tryd.prog [.cell 2 28] R [] [] 3000 [.code (bodyOf Tryd.f10)] ([a0] ++ List.replicate (Tryd.f10.ntmps - 1) lundef) st = w10 a0 R st := by kernel_rfl
theorem c10 (a0 : LV) {R : LV → LState → Prop} {st : LState} (h : w10 a0 R st) : LCalls Tryd.prog 10 [a0] st R :=
  LCalls.of cm_mixed Tryd.func10 (show Tryd.f10.body = some (bodyOf Tryd.f10) by kernel_rfl) (by kernel_rfl) (show Tryd.f10.results.toList = [.cell 2 28] by kernel_rfl) (levT_sound cm_mixed 3000 (Eq.mpr (w10_eq a0 R st) h))

/-- flange.flangeref17.Right -/
def w11 (a0 : LV) (R : LV → LState → Prop) (st : LState) : Prop :=
  bd2 (lbox st a0) fun v0 st1 =>
    bd (fAddr 0 v0) fun v2 =>
      bd (ixArr 3 1 v2 (LV.int IntKind.i64 0)) fun v3 =>
        bd (ld1 st1 v3) fun v4 =>
          LCalls Tryd.prog 22 [v4] st1 fun v5 st6 =>
            bsel v5
              (bd (fAddr 0 v0) fun v7 =>
                bd (ixArr 3 1 v7 (LV.int IntKind.i64 1)) fun v8 =>
                  bd (ld1 st6 v8) fun v9 =>
                    LCalls Tryd.prog 22 [v9] st6 fun v10 st11 =>
                      bsel v10
                        (bd (fAddr 0 v0) fun v12 =>
                          bd (ixArr 3 1 v12 (LV.int IntKind.i64 2)) fun v13 =>
                            bd (ld1 st11 v13) fun v14 =>
                              LCalls Tryd.prog 22 [v14] st11 fun v15 st16 =>
                                bsel v15
                                  (bd (fAddr 3 v0) fun v17 =>
                                    bd (ld1 st16 v17) fun v18 =>
                                      bd (bInt BinOp.geq v18 (LV.int IntKind.i64 (-1))) fun v19 =>
                                        bsel v19 (bd (fAddr 3 v0) fun v20 => bd (ld1 st16 v20) fun v21 => bd (bInt BinOp.leq v21 (LV.int IntKind.i64 999)) fun v22 => R v22 st16)
                                          (R (LV.bool false) st16))
                                  (R (LV.bool false) st16))
                        (R (LV.bool false) st11))
              (R (LV.bool false) st6)
theorem w11_eq (a0 : LV) (R : LV → LState → Prop) (st : LState) : levT Tryd.prog [.tmp 2] R [] [] 3000 [.code (bodyOf Tryd.f11)] ([a0] ++ List.replicate (Tryd.f11.ntmps - 1) lundef) st = w11 a0 R st := by kernel_rfl
theorem c11 (a0 : LV) {R : LV → LState → Prop} {st : LState} (h : w11 a0 R st) : LCalls Tryd.prog 11 [a0] st R :=
  LCalls.of cm_mixed Tryd.func11 (show Tryd.f11.body = some (bodyOf Tryd.f11) by kernel_rfl) (by kernel_rfl) (show Tryd.f11.results.toList = [.tmp 2] by kernel_rfl) (levT_sound cm_mixed 3000 (Eq.mpr (w11_eq a0 R st) h))

/-- (flange.address.Address).Right -/
def w15 (a0 : LV) (R : LV → LState → Prop) (st : LState) : Prop :=
  bd2 (lbox st a0) fun v0 st1 =>
    bd (fAddr 0 v0) fun v2 =>
      bd (ld1 st1 v2) fun v3 =>
        LCalls Tryd.prog 33 [v3] st1 fun v4 st5 =>
          bsel v4
            (bd (fAddr 1 v0) fun v6 =>
              bd (ld1 st5 v6) fun v7 =>
                LCalls Tryd.prog 33 [v7] st5 fun v8 st9 =>
                  bsel v8
                    (bd (fAddr 2 v0) fun v10 =>
                      bd (ld1 st9 v10) fun v11 =>
                        LCalls Tryd.prog 33 [v11] st9 fun v12 st13 =>
                          bsel v12
                            (bd (fAddr 3 v0) fun v14 =>
                              bd (ld1 st13 v14) fun v15 =>
                                bd (bInt BinOp.geq v15 (LV.int IntKind.i64 (-1))) fun v16 =>
                                  bsel v16 (bd (fAddr 3 v0) fun v17 => bd (ld1 st13 v17) fun v18 => bd (bInt BinOp.leq v18 (LV.int IntKind.i64 999)) fun v19 => R v19 st13)
                                    (R (LV.bool false) st13))
                            (R (LV.bool false) st13))
                    (R (LV.bool false) st9))
            (R (LV.bool false) st5)
theorem w15_eq (a0 : LV) (R : LV → LState → Prop) (st : LState) : levT Tryd.prog [.tmp 2] R [] [] 3000 [.code (bodyOf Tryd.f15)] ([a0] ++ List.replicate (Tryd.f15.ntmps - 1) lundef) st = w15 a0 R st := by kernel_rfl
theorem c15 (a0 : LV) {R : LV → LState → Prop} {st : LState} (h : w15 a0 R st) : LCalls Tryd.prog 15 [a0] st R :=
  LCalls.of cm_mixed Tryd.func15 (show Tryd.f15.body = some (bodyOf Tryd.f15) by kernel_rfl) (by kernel_rfl) (show Tryd.f15.results.toList = [.tmp 2] by kernel_rfl) (levT_sound cm_mixed 3000 (Eq.mpr (w15_eq a0 R st) h))

/-- flange.flangeref17.Named -/
def w22 (a0 : LV) (R : LV → LState → Prop) (st : LState) : Prop :=
  LT Tryd.prog [ResultVar.tmp 2] (pointN Tryd.f22 1) R
    [a0, LV.junk, LV.junk, LV.int IntKind.i64 0, LV.junk, LV.junk, LV.junk, LV.junk, LV.junk, LV.junk, LV.junk, LV.junk, LV.junk, LV.junk, LV.junk, LV.junk, LV.junk, LV.junk,
      LV.junk, LV.junk, LV.junk, LV.junk, LV.junk, LV.junk]
    st
theorem w22_eq (a0 : LV) (R : LV → LState → Prop) (st : LState) : levT Tryd.prog [.tmp 2] R [1, 2, 4, 5, 6, 7, 8, 9, 10, 11, 12, 13, 14, 15, 16, 17, 18, 19, 20, 21, 22, 23] [] 3000 [.code (bodyOf Tryd.f22)] ([a0] ++ List.replicate (Tryd.f22.ntmps - 1) lundef) st = w22 a0 R st := by kernel_rfl
theorem c22 (a0 : LV) {R : LV → LState → Prop} {st : LState} (h : w22 a0 R st) : LCalls Tryd.prog 22 [a0] st R :=
  LCalls.of cm_mixed Tryd.func22 (show Tryd.f22.body = some (bodyOf Tryd.f22) by kernel_rfl) (by kernel_rfl) (show Tryd.f22.results.toList = [.tmp 2] by kernel_rfl) (levT_sound cm_mixed 3000 (Eq.mpr (w22_eq a0 R st) h))

/-- flange.flangeref17.Named, from point 1 on -/
def w22_1 (x0 x3 : LV) (R : LV → LState → Prop) (st : LState) : Prop :=
  bd (lenStr x0) fun v0 =>
    bd (bInt BinOp.lss x3 v0) fun v1 =>
      bsel v1
        (bd (ixStr x0 x3) fun v2 =>
          LCalls Tryd.prog 32 [v2, x3] st fun v3 st4 =>
            bd (lun UnOp.not v3) fun v5 =>
              bsel v5 (R (LV.bool false) st4)
                (bd (bInt BinOp.add x3 (LV.int IntKind.i64 1)) fun v6 =>
                  LT Tryd.prog [ResultVar.tmp 2] (pointN Tryd.f22 1) R
                    [x0, LV.junk, LV.junk, v6, LV.junk, LV.junk, LV.junk, LV.junk, LV.junk, LV.junk, LV.junk, LV.junk, LV.junk, LV.junk, LV.junk, LV.junk, LV.junk, LV.junk, LV.junk,
                      LV.junk, LV.junk, LV.junk, LV.junk, LV.junk]
                    st4))
        (bd (lenStr x0) fun v7 =>
          bd (bInt BinOp.gtr v7 (LV.int IntKind.i64 0)) fun v8 =>
            bsel v8 (bd (lenStr x0) fun v9 => bd (bInt BinOp.leq v9 (LV.int IntKind.i64 20)) fun v10 => R v10 st) (R (LV.bool false) st))
theorem w22_1_eq (x0 x3 : LV) (R : LV → LState → Prop) (st : LState) : levT Tryd.prog [.tmp 2] R [1, 2, 4, 5, 6, 7, 8, 9, 10, 11, 12, 13, 14, 15, 16, 17, 18, 19, 20, 21, 22, 23] [] 3000 (stepIn (pointN Tryd.f22 1)) [x0, .junk, .junk, x3, .junk, .junk, .junk, .junk, .junk, .junk, .junk, .junk, .junk, .junk, .junk, .junk, .junk, .junk, .junk, .junk, .junk, .junk, .junk, .junk] st = w22_1 x0 x3 R st := by kernel_rfl
theorem p22_1 (x0 x3 : LV) {R : LV → LState → Prop} {st : LState} (h : w22_1 x0 x3 R st) : LT Tryd.prog [.tmp 2] (pointN Tryd.f22 1) R [x0, .junk, .junk, x3, .junk, .junk, .junk, .junk, .junk, .junk, .junk, .junk, .junk, .junk, .junk, .junk, .junk, .junk, .junk, .junk, .junk, .junk, .junk, .junk] st :=
  LT.at cm_mixed 3000 (Eq.mpr (w22_1_eq x0 x3 R st) h)

/-- (flange.address.Address).words -/
def w24 (a0 : LV) (R : LV → LState → Prop) (st : LState) : Prop :=
  bd2 (lbox st a0) fun v0 st1 =>
    bd (fAddr 0 v0) fun v2 =>
      bd (ld1 st1 v2) fun v3 =>
        bd (fAddr 1 v0) fun v4 =>
          bd (ld1 st1 v4) fun v5 =>
            bd (fAddr 2 v0) fun v6 =>
              bd (ld1 st1 v6) fun v7 => bd2 (slNew st1 3 (lfill (fun i => some (i * 1, 1)) (List.replicate 3 [LV.str []]).flatten [(0, v3), (1, v5), (2, v7)])) fun v8 st9 => R v8 st9
theorem w24_eq (a0 : LV) (R : LV → LState → Prop) (st : LState) : levT Tryd.prog [.tmp 2] R [] [] 3000 [.code (bodyOf Tryd.f24)] ([a0] ++ List.replicate (Tryd.f24.ntmps - 1) lundef) st = w24 a0 R st := by kernel_rfl
theorem c24 (a0 : LV) {R : LV → LState → Prop} {st : LState} (h : w24 a0 R st) : LCalls Tryd.prog 24 [a0] st R :=
  LCalls.of cm_mixed Tryd.func24 (show Tryd.f24.body = some (bodyOf Tryd.f24) by kernel_rfl) (by kernel_rfl) (show Tryd.f24.results.toList = [.tmp 2] by kernel_rfl) (levT_sound cm_mixed 3000 (Eq.mpr (w24_eq a0 R st) h))

/-- flange.flangeref17.lettered -/
def w32 (a0 a1 : LV) (R : LV → LState → Prop) (st : LState) : Prop :=
  bd (bInt BinOp.geq a0 (LV.int IntKind.u8 97)) fun v0 =>
    bsel v0
      (bd (bInt BinOp.leq a0 (LV.int IntKind.u8 122)) fun v1 =>
        bsel v1 (R (LV.bool true) st)
          (bd (bInt BinOp.gtr a1 (LV.int IntKind.i64 0)) fun v2 =>
            bsel v2 (bd (bInt BinOp.geq a0 (LV.int IntKind.u8 48)) fun v3 => bsel v3 (bd (bInt BinOp.leq a0 (LV.int IntKind.u8 57)) fun v4 => R v4 st) (R (LV.bool false) st))
              (R (LV.bool false) st)))
      (bd (bInt BinOp.gtr a1 (LV.int IntKind.i64 0)) fun v5 =>
        bsel v5 (bd (bInt BinOp.geq a0 (LV.int IntKind.u8 48)) fun v6 => bsel v6 (bd (bInt BinOp.leq a0 (LV.int IntKind.u8 57)) fun v7 => R v7 st) (R (LV.bool false) st))
          (R (LV.bool false) st))
theorem w32_eq (a0 a1 : LV) (R : LV → LState → Prop) (st : LState) : levT Tryd.prog [.tmp 4] R [] [] 3000 [.code (bodyOf Tryd.f32)] ([a0, a1] ++ List.replicate (Tryd.f32.ntmps - 2) lundef) st = w32 a0 a1 R st := by kernel_rfl
theorem c32 (a0 a1 : LV) {R : LV → LState → Prop} {st : LState} (h : w32 a0 a1 R st) : LCalls Tryd.prog 32 [a0, a1] st R :=
  LCalls.of cm_mixed Tryd.func32 (show Tryd.f32.body = some (bodyOf Tryd.f32) by kernel_rfl) (by kernel_rfl) (show Tryd.f32.results.toList = [.tmp 4] by kernel_rfl) (levT_sound cm_mixed 3000 (Eq.mpr (w32_eq a0 a1 R st) h))

/-- flange.kind.Named -/
def w33 (a0 : LV) (R : LV → LState → Prop) (st : LState) : Prop :=
  bd (lenStr a0) fun v0 =>
    LT Tryd.prog [ResultVar.tmp 2] (pointN Tryd.f33 1) R
      [a0, LV.junk, LV.junk, LV.junk, LV.junk, LV.junk, v0, LV.int IntKind.i64 0, LV.junk, LV.junk, LV.junk, LV.junk, LV.junk, LV.junk, LV.junk, LV.junk, LV.junk, LV.junk, LV.junk,
        LV.junk, LV.junk, LV.junk, LV.junk, LV.junk, LV.junk, LV.junk, LV.junk, LV.junk, LV.junk, LV.junk, LV.junk, LV.junk, LV.junk, LV.junk, LV.junk, LV.junk, LV.junk, LV.junk,
        LV.junk, LV.junk]
      st
theorem w33_eq (a0 : LV) (R : LV → LState → Prop) (st : LState) : levT Tryd.prog [.tmp 2] R [1, 2, 3, 4, 5, 8, 9, 10, 11, 12, 13, 14, 15, 16, 17, 18, 19, 20, 21, 22, 23, 24, 25, 26, 27, 28, 29, 30, 31, 32, 33, 34, 35, 36, 37, 38, 39] [] 3000 [.code (bodyOf Tryd.f33)] ([a0] ++ List.replicate (Tryd.f33.ntmps - 1) lundef) st = w33 a0 R st := by kernel_rfl
theorem c33 (a0 : LV) {R : LV → LState → Prop} {st : LState} (h : w33 a0 R st) : LCalls Tryd.prog 33 [a0] st R :=
  LCalls.of cm_mixed Tryd.func33 (show Tryd.f33.body = some (bodyOf Tryd.f33) by kernel_rfl) (by kernel_rfl) (show Tryd.f33.results.toList = [.tmp 2] by kernel_rfl) (levT_sound cm_mixed 3000 (Eq.mpr (w33_eq a0 R st) h))

/-- flange.kind.Named, from point 1 on -/
def w33_1 (x0 x6 x7 : LV) (R : LV → LState → Prop) (st : LState) : Prop :=
  bd (bInt BinOp.lss x7 x6) fun v0 =>
    bsel v0
      (bd (ixStr x0 x7) fun v1 =>
        bd (bInt BinOp.geq v1 (LV.int IntKind.u8 97)) fun v2 =>
          bsel v2
            (bd (bInt BinOp.leq v1 (LV.int IntKind.u8 122)) fun v3 =>
              bsel v3
                (bd (lun UnOp.not (LV.bool true)) fun v4 =>
                  bsel v4 (R (LV.bool false) st)
                    (bd (bInt BinOp.add x7 (LV.int IntKind.i64 1)) fun v5 =>
                      LT Tryd.prog [ResultVar.tmp 2] (pointN Tryd.f33 1) R
                        [x0, LV.junk, LV.junk, LV.junk, LV.junk, LV.junk, x6, v5, LV.junk, LV.junk, LV.junk, LV.junk, LV.junk, LV.junk, LV.junk, LV.junk, LV.junk, LV.junk, LV.junk,
                          LV.junk, LV.junk, LV.junk, LV.junk, LV.junk, LV.junk, LV.junk, LV.junk, LV.junk, LV.junk, LV.junk, LV.junk, LV.junk, LV.junk, LV.junk, LV.junk, LV.junk,
                          LV.junk, LV.junk, LV.junk, LV.junk]
                        st))
                (bd (bInt BinOp.gtr x7 (LV.int IntKind.i64 0)) fun v6 =>
                  bsel v6
                    (bd (bInt BinOp.geq v1 (LV.int IntKind.u8 48)) fun v7 =>
                      bsel v7
                        (bd (bInt BinOp.leq v1 (LV.int IntKind.u8 57)) fun v8 =>
                          bd (lun UnOp.not v8) fun v9 =>
                            bsel v9 (R (LV.bool false) st)
                              (bd (bInt BinOp.add x7 (LV.int IntKind.i64 1)) fun v10 =>
                                LT Tryd.prog [ResultVar.tmp 2] (pointN Tryd.f33 1) R
                                  [x0, LV.junk, LV.junk, LV.junk, LV.junk, LV.junk, x6, v10, LV.junk, LV.junk, LV.junk, LV.junk, LV.junk, LV.junk, LV.junk, LV.junk, LV.junk, LV.junk,
                                    LV.junk, LV.junk, LV.junk, LV.junk, LV.junk, LV.junk, LV.junk, LV.junk, LV.junk, LV.junk, LV.junk, LV.junk, LV.junk, LV.junk, LV.junk, LV.junk,
                                    LV.junk, LV.junk, LV.junk, LV.junk, LV.junk, LV.junk]
                                  st))
                        (bd (lun UnOp.not (LV.bool false)) fun v11 =>
                          bsel v11 (R (LV.bool false) st)
                            (bd (bInt BinOp.add x7 (LV.int IntKind.i64 1)) fun v12 =>
                              LT Tryd.prog [ResultVar.tmp 2] (pointN Tryd.f33 1) R
                                [x0, LV.junk, LV.junk, LV.junk, LV.junk, LV.junk, x6, v12, LV.junk, LV.junk, LV.junk, LV.junk, LV.junk, LV.junk, LV.junk, LV.junk, LV.junk, LV.junk,
                                  LV.junk, LV.junk, LV.junk, LV.junk, LV.junk, LV.junk, LV.junk, LV.junk, LV.junk, LV.junk, LV.junk, LV.junk, LV.junk, LV.junk, LV.junk, LV.junk,
                                  LV.junk, LV.junk, LV.junk, LV.junk, LV.junk, LV.junk]
                                st)))
                    (bd (lun UnOp.not (LV.bool false)) fun v13 =>
                      bsel v13 (R (LV.bool false) st)
                        (bd (bInt BinOp.add x7 (LV.int IntKind.i64 1)) fun v14 =>
                          LT Tryd.prog [ResultVar.tmp 2] (pointN Tryd.f33 1) R
                            [x0, LV.junk, LV.junk, LV.junk, LV.junk, LV.junk, x6, v14, LV.junk, LV.junk, LV.junk, LV.junk, LV.junk, LV.junk, LV.junk, LV.junk, LV.junk, LV.junk,
                              LV.junk, LV.junk, LV.junk, LV.junk, LV.junk, LV.junk, LV.junk, LV.junk, LV.junk, LV.junk, LV.junk, LV.junk, LV.junk, LV.junk, LV.junk, LV.junk, LV.junk,
                              LV.junk, LV.junk, LV.junk, LV.junk, LV.junk]
                            st))))
            (bd (bInt BinOp.gtr x7 (LV.int IntKind.i64 0)) fun v15 =>
              bsel v15
                (bd (bInt BinOp.geq v1 (LV.int IntKind.u8 48)) fun v16 =>
                  bsel v16
                    (bd (bInt BinOp.leq v1 (LV.int IntKind.u8 57)) fun v17 =>
                      bd (lun UnOp.not v17) fun v18 =>
                        bsel v18 (R (LV.bool false) st)
                          (bd (bInt BinOp.add x7 (LV.int IntKind.i64 1)) fun v19 =>
                            LT Tryd.prog [ResultVar.tmp 2] (pointN Tryd.f33 1) R
                              [x0, LV.junk, LV.junk, LV.junk, LV.junk, LV.junk, x6, v19, LV.junk, LV.junk, LV.junk, LV.junk, LV.junk, LV.junk, LV.junk, LV.junk, LV.junk, LV.junk,
                                LV.junk, LV.junk, LV.junk, LV.junk, LV.junk, LV.junk, LV.junk, LV.junk, LV.junk, LV.junk, LV.junk, LV.junk, LV.junk, LV.junk, LV.junk, LV.junk,
                                LV.junk, LV.junk, LV.junk, LV.junk, LV.junk, LV.junk]
                              st))
                    (bd (lun UnOp.not (LV.bool false)) fun v20 =>
                      bsel v20 (R (LV.bool false) st)
                        (bd (bInt BinOp.add x7 (LV.int IntKind.i64 1)) fun v21 =>
                          LT Tryd.prog [ResultVar.tmp 2] (pointN Tryd.f33 1) R
                            [x0, LV.junk, LV.junk, LV.junk, LV.junk, LV.junk, x6, v21, LV.junk, LV.junk, LV.junk, LV.junk, LV.junk, LV.junk, LV.junk, LV.junk, LV.junk, LV.junk,
                              LV.junk, LV.junk, LV.junk, LV.junk, LV.junk, LV.junk, LV.junk, LV.junk, LV.junk, LV.junk, LV.junk, LV.junk, LV.junk, LV.junk, LV.junk, LV.junk, LV.junk,
                              LV.junk, LV.junk, LV.junk, LV.junk, LV.junk]
                            st)))
                (bd (lun UnOp.not (LV.bool false)) fun v22 =>
                  bsel v22 (R (LV.bool false) st)
                    (bd (bInt BinOp.add x7 (LV.int IntKind.i64 1)) fun v23 =>
                      LT Tryd.prog [ResultVar.tmp 2] (pointN Tryd.f33 1) R
                        [x0, LV.junk, LV.junk, LV.junk, LV.junk, LV.junk, x6, v23, LV.junk, LV.junk, LV.junk, LV.junk, LV.junk, LV.junk, LV.junk, LV.junk, LV.junk, LV.junk, LV.junk,
                          LV.junk, LV.junk, LV.junk, LV.junk, LV.junk, LV.junk, LV.junk, LV.junk, LV.junk, LV.junk, LV.junk, LV.junk, LV.junk, LV.junk, LV.junk, LV.junk, LV.junk,
                          LV.junk, LV.junk, LV.junk, LV.junk]
                        st))))
      (bd (bStr BinOp.neq x0 (LV.str [])) fun v24 => bsel v24 (bd (lenStr x0) fun v25 => bd (bInt BinOp.leq v25 (LV.int IntKind.i64 20)) fun v26 => R v26 st) (R (LV.bool false) st))
theorem w33_1_eq (x0 x6 x7 : LV) (R : LV → LState → Prop) (st : LState) : levT Tryd.prog [.tmp 2] R [1, 2, 3, 4, 5, 8, 9, 10, 11, 12, 13, 14, 15, 16, 17, 18, 19, 20, 21, 22, 23, 24, 25, 26, 27, 28, 29, 30, 31, 32, 33, 34, 35, 36, 37, 38, 39] [] 3000 (stepIn (pointN Tryd.f33 1)) [x0, .junk, .junk, .junk, .junk, .junk, x6, x7, .junk, .junk, .junk, .junk, .junk, .junk, .junk, .junk, .junk, .junk, .junk, .junk, .junk, .junk, .junk, .junk, .junk, .junk, .junk, .junk, .junk, .junk, .junk, .junk, .junk, .junk, .junk, .junk, .junk, .junk, .junk, .junk] st = w33_1 x0 x6 x7 R st := by kernel_rfl
theorem p33_1 (x0 x6 x7 : LV) {R : LV → LState → Prop} {st : LState} (h : w33_1 x0 x6 x7 R st) : LT Tryd.prog [.tmp 2] (pointN Tryd.f33 1) R [x0, .junk, .junk, .junk, .junk, .junk, x6, x7, .junk, .junk, .junk, .junk, .junk, .junk, .junk, .junk, .junk, .junk, .junk, .junk, .junk, .junk, .junk, .junk, .junk, .junk, .junk, .junk, .junk, .junk, .junk, .junk, .junk, .junk, .junk, .junk, .junk, .junk, .junk, .junk] st :=
  LT.at cm_mixed 3000 (Eq.mpr (w33_1_eq x0 x6 x7 R st) h)

/-- strings.Split -/
def w23 (a0 a1 : LV) (R : LV → LState → Prop) (st : LState) : Prop :=
  LCalls Tryd.prog 43 [a0, a1, LV.int IntKind.i64 0, LV.int IntKind.i64 (-1)] st fun v0 st1 => R v0 st1
theorem w23_eq (a0 a1 : LV) (R : LV → LState → Prop) (st : LState) : levT Tryd.prog [.tmp 4] R [] [] 3000 [.code (bodyOf Tryd.f23)] ([a0, a1] ++ List.replicate (Tryd.f23.ntmps - 2) lundef) st = w23 a0 a1 R st := by kernel_rfl
theorem c23 (a0 a1 : LV) {R : LV → LState → Prop} {st : LState} (h : w23 a0 a1 R st) : LCalls Tryd.prog 23 [a0, a1] st R :=
  LCalls.of cm_mixed Tryd.func23 (show Tryd.f23.body = some (bodyOf Tryd.f23) by kernel_rfl) (by kernel_rfl) (show Tryd.f23.results.toList = [.tmp 4] by kernel_rfl) (levT_sound cm_mixed 3000 (Eq.mpr (w23_eq a0 a1 R st) h))

/-- strings.genSplit -/
def w43 (a0 a1 a2 a3 : LV) (R : LV → LState → Prop) (st : LState) : Prop :=
  bd (bInt BinOp.eql a3 (LV.int IntKind.i64 0)) fun v0 =>
    bsel v0 (R LV.nils st)
      (bd (bStr BinOp.eql a1 (LV.str [])) fun v1 =>
        bsel v1 (LCalls Tryd.prog 54 [a0, a3] st fun v2 st3 => R v2 st3)
          (bd (bInt BinOp.lss a3 (LV.int IntKind.i64 0)) fun v4 =>
            bsel v4
              (LCalls Tryd.prog 55 [a0, a1] st fun v5 st6 =>
                bd (bInt BinOp.add v5 (LV.int IntKind.i64 1)) fun v7 =>
                  bd (lenStr a0) fun v8 =>
                    bd (bInt BinOp.add v8 (LV.int IntKind.i64 1)) fun v9 =>
                      bd (lmins [v7, v9]) fun v10 =>
                        bd2 (lmakeSl 16 [LV.str []] st6 v10 v10) fun v11 st12 =>
                          bd (bInt BinOp.sub v10 (LV.int IntKind.i64 1)) fun v13 =>
                            LT Tryd.prog [ResultVar.tmp 8] (pointN Tryd.f43 1) R
                              [a0, a1, a2, v13, LV.junk, LV.junk, LV.junk, LV.junk, LV.junk, v11, LV.int IntKind.i64 0, LV.junk, LV.junk, LV.junk, LV.junk, LV.junk, LV.junk, LV.junk,
                                LV.junk, LV.junk, LV.junk, LV.junk, LV.junk, LV.junk, LV.junk, LV.junk, LV.junk, LV.junk, LV.junk, LV.junk, LV.junk, LV.junk, LV.junk, LV.junk,
                                LV.junk, LV.junk, LV.junk, LV.junk, LV.junk, LV.junk, LV.junk, LV.junk, LV.junk, LV.junk, LV.junk, LV.junk, LV.junk, LV.junk, LV.junk, LV.junk,
                                LV.junk, LV.junk, LV.junk, LV.junk, LV.junk, LV.junk, LV.junk, LV.junk, LV.junk, LV.junk, LV.junk, LV.junk, LV.junk, LV.junk, LV.junk, LV.junk]
                              st12)
              (bd (lenStr a0) fun v14 =>
                bd (bInt BinOp.add v14 (LV.int IntKind.i64 1)) fun v15 =>
                  bd (lmins [a3, v15]) fun v16 =>
                    bd2 (lmakeSl 16 [LV.str []] st v16 v16) fun v17 st18 =>
                      bd (bInt BinOp.sub v16 (LV.int IntKind.i64 1)) fun v19 =>
                        LT Tryd.prog [ResultVar.tmp 8] (pointN Tryd.f43 1) R
                          [a0, a1, a2, v19, LV.junk, LV.junk, LV.junk, LV.junk, LV.junk, v17, LV.int IntKind.i64 0, LV.junk, LV.junk, LV.junk, LV.junk, LV.junk, LV.junk, LV.junk,
                            LV.junk, LV.junk, LV.junk, LV.junk, LV.junk, LV.junk, LV.junk, LV.junk, LV.junk, LV.junk, LV.junk, LV.junk, LV.junk, LV.junk, LV.junk, LV.junk, LV.junk,
                            LV.junk, LV.junk, LV.junk, LV.junk, LV.junk, LV.junk, LV.junk, LV.junk, LV.junk, LV.junk, LV.junk, LV.junk, LV.junk, LV.junk, LV.junk, LV.junk, LV.junk,
                            LV.junk, LV.junk, LV.junk, LV.junk, LV.junk, LV.junk, LV.junk, LV.junk, LV.junk, LV.junk, LV.junk, LV.junk, LV.junk, LV.junk]
                          st18)))
theorem w43_eq (a0 a1 a2 a3 : LV) (R : LV → LState → Prop) (st : LState) : levT Tryd.prog [.tmp 8] R [4, 5, 6, 7, 8, 11, 12, 13, 14, 15, 16, 17, 18, 19, 20, 21, 22, 23, 24, 25, 26, 27, 28, 29, 30, 31, 32, 33, 34, 35, 36, 37, 38, 39, 40, 41, 42, 43, 44, 45, 46, 47, 48, 49, 50, 51, 52, 53, 54, 55, 56, 57, 58, 59, 60, 61, 62, 63, 64, 65] [] 3000 [.code (bodyOf Tryd.f43)] ([a0, a1, a2, a3] ++ List.replicate (Tryd.f43.ntmps - 4) lundef) st = w43 a0 a1 a2 a3 R st := by kernel_rfl
theorem c43 (a0 a1 a2 a3 : LV) {R : LV → LState → Prop} {st : LState} (h : w43 a0 a1 a2 a3 R st) : LCalls Tryd.prog 43 [a0, a1, a2, a3] st R :=
  LCalls.of cm_mixed Tryd.func43 (show Tryd.f43.body = some (bodyOf Tryd.f43) by kernel_rfl) (by kernel_rfl) (show Tryd.f43.results.toList = [.tmp 8] by kernel_rfl) (levT_sound cm_mixed 3000 (Eq.mpr (w43_eq a0 a1 a2 a3 R st) h))

/-- strings.genSplit, from point 1 on -/
def w43_1 (x0 x1 x2 x3 x9 x10 : LV) (R : LV → LState → Prop) (st : LState) : Prop :=
  bd (bInt BinOp.lss x10 x3) fun v0 =>
    bsel v0
      (LCalls Tryd.prog 56 [x0, x1] st fun v1 st2 =>
        bd (bInt BinOp.lss v1 (LV.int IntKind.i64 0)) fun v3 =>
          bsel v3
            (bd (ixSl 1 x9 x10) fun v4 =>
              bd2 (lmk (stV st2 1 v4 x0)) fun v5 st6 =>
                bd (bInt BinOp.add x10 (LV.int IntKind.i64 1)) fun v7 => bd (ob3 none (some v7) none fun l h m => slRoom st6 1 x9 l h m) fun v8 => R v8 st6)
            (bd (bInt BinOp.add v1 x2) fun v9 =>
              bd (ob3 none (some v9) none fun l h m => slStr x0 l h m) fun v10 =>
                bd (ixSl 1 x9 x10) fun v11 =>
                  bd2 (lmk (stV st2 1 v11 v10)) fun v12 st13 =>
                    bd (lenStr x1) fun v14 =>
                      bd (bInt BinOp.add v1 v14) fun v15 =>
                        bd (ob3 (some v15) none none fun l h m => slStr x0 l h m) fun v16 =>
                          bd (bInt BinOp.add x10 (LV.int IntKind.i64 1)) fun v17 =>
                            LT Tryd.prog [ResultVar.tmp 8] (pointN Tryd.f43 1) R
                              [v16, x1, x2, x3, LV.junk, LV.junk, LV.junk, LV.junk, LV.junk, x9, v17, LV.junk, LV.junk, LV.junk, LV.junk, LV.junk, LV.junk, LV.junk, LV.junk, LV.junk,
                                LV.junk, LV.junk, LV.junk, LV.junk, LV.junk, LV.junk, LV.junk, LV.junk, LV.junk, LV.junk, LV.junk, LV.junk, LV.junk, LV.junk, LV.junk, LV.junk,
                                LV.junk, LV.junk, LV.junk, LV.junk, LV.junk, LV.junk, LV.junk, LV.junk, LV.junk, LV.junk, LV.junk, LV.junk, LV.junk, LV.junk, LV.junk, LV.junk,
                                LV.junk, LV.junk, LV.junk, LV.junk, LV.junk, LV.junk, LV.junk, LV.junk, LV.junk, LV.junk, LV.junk, LV.junk, LV.junk, LV.junk]
                              st13))
      (bd (ixSl 1 x9 x10) fun v18 =>
        bd2 (lmk (stV st 1 v18 x0)) fun v19 st20 =>
          bd (bInt BinOp.add x10 (LV.int IntKind.i64 1)) fun v21 => bd (ob3 none (some v21) none fun l h m => slRoom st20 1 x9 l h m) fun v22 => R v22 st20)
theorem w43_1_eq (x0 x1 x2 x3 x9 x10 : LV) (R : LV → LState → Prop) (st : LState) : levT Tryd.prog [.tmp 8] R [4, 5, 6, 7, 8, 11, 12, 13, 14, 15, 16, 17, 18, 19, 20, 21, 22, 23, 24, 25, 26, 27, 28, 29, 30, 31, 32, 33, 34, 35, 36, 37, 38, 39, 40, 41, 42, 43, 44, 45, 46, 47, 48, 49, 50, 51, 52, 53, 54, 55, 56, 57, 58, 59, 60, 61, 62, 63, 64, 65] [] 3000 (stepIn (pointN Tryd.f43 1)) [x0, x1, x2, x3, .junk, .junk, .junk, .junk, .junk, x9, x10, .junk, .junk, .junk, .junk, .junk, .junk, .junk, .junk, .junk, .junk, .junk, .junk, .junk, .junk, .junk, .junk, .junk, .junk, .junk, .junk, .junk, .junk, .junk, .junk, .junk, .junk, .junk, .junk, .junk, .junk, .junk, .junk, .junk, .junk, .junk, .junk, .junk, .junk, .junk, .junk, .junk, .junk, .junk, .junk, .junk, .junk, .junk, .junk, .junk, .junk, .junk, .junk, .junk, .junk, .junk] st = w43_1 x0 x1 x2 x3 x9 x10 R st := by kernel_rfl
theorem p43_1 (x0 x1 x2 x3 x9 x10 : LV) {R : LV → LState → Prop} {st : LState} (h : w43_1 x0 x1 x2 x3 x9 x10 R st) : LT Tryd.prog [.tmp 8] (pointN Tryd.f43 1) R [x0, x1, x2, x3, .junk, .junk, .junk, .junk, .junk, x9, x10, .junk, .junk, .junk, .junk, .junk, .junk, .junk, .junk, .junk, .junk, .junk, .junk, .junk, .junk, .junk, .junk, .junk, .junk, .junk, .junk, .junk, .junk, .junk, .junk, .junk, .junk, .junk, .junk, .junk, .junk, .junk, .junk, .junk, .junk, .junk, .junk, .junk, .junk, .junk, .junk, .junk, .junk, .junk, .junk, .junk, .junk, .junk, .junk, .junk, .junk, .junk, .junk, .junk, .junk, .junk] st :=
  LT.at cm_mixed 3000 (Eq.mpr (w43_1_eq x0 x1 x2 x3 x9 x10 R st) h)

/-- strings.Count -/
def w55 (a0 a1 : LV) (R : LV → LState → Prop) (st : LState) : Prop :=
  bd (lenStr a1) fun v0 =>
    bd (bInt BinOp.eql v0 (LV.int IntKind.i64 0)) fun v1 =>
      bsel v1 (LCalls Tryd.prog 73 [a0] st fun v2 st3 => bd (bInt BinOp.add v2 (LV.int IntKind.i64 1)) fun v4 => R v4 st3)
        (bd (lenStr a1) fun v5 =>
          bd (bInt BinOp.eql v5 (LV.int IntKind.i64 1)) fun v6 =>
            bsel v6 (bd (ixStr a1 (LV.int IntKind.i64 0)) fun v7 => LCalls Tryd.prog 75 [a0, v7] st fun v8 st9 => R v8 st9)
              (LT Tryd.prog [ResultVar.tmp 4] (pointN Tryd.f55 1) R
                [a0, a1, LV.junk, LV.junk, LV.junk, LV.int IntKind.i64 0, LV.junk, LV.junk, LV.junk, LV.junk, LV.junk, LV.junk, LV.junk, LV.junk, LV.junk, LV.junk, LV.junk, LV.junk,
                  LV.junk, LV.junk, LV.junk, LV.junk, LV.junk, LV.junk, LV.junk, LV.junk, LV.junk, LV.junk, LV.junk, LV.junk, LV.junk, LV.junk, LV.junk, LV.junk]
                st))
theorem w55_eq (a0 a1 : LV) (R : LV → LState → Prop) (st : LState) : levT Tryd.prog [.tmp 4] R [2, 3, 4, 6, 7, 8, 9, 10, 11, 12, 13, 14, 15, 16, 17, 18, 19, 20, 21, 22, 23, 24, 25, 26, 27, 28, 29, 30, 31, 32, 33] [] 3000 [.code (bodyOf Tryd.f55)] ([a0, a1] ++ List.replicate (Tryd.f55.ntmps - 2) lundef) st = w55 a0 a1 R st := by kernel_rfl
theorem c55 (a0 a1 : LV) {R : LV → LState → Prop} {st : LState} (h : w55 a0 a1 R st) : LCalls Tryd.prog 55 [a0, a1] st R :=
  LCalls.of cm_mixed Tryd.func55 (show Tryd.f55.body = some (bodyOf Tryd.f55) by kernel_rfl) (by kernel_rfl) (show Tryd.f55.results.toList = [.tmp 4] by kernel_rfl) (levT_sound cm_mixed 3000 (Eq.mpr (w55_eq a0 a1 R st) h))

/-- strings.Count, from point 1 on -/
def w55_1 (x0 x1 x5 : LV) (R : LV → LState → Prop) (st : LState) : Prop :=
  LCalls Tryd.prog 56 [x0, x1] st fun v0 st1 =>
    bd (bInt BinOp.eql v0 (LV.int IntKind.i64 (-1))) fun v2 =>
      bsel v2 (R x5 st1)
        (bd (bInt BinOp.add x5 (LV.int IntKind.i64 1)) fun v3 =>
          bd (lenStr x1) fun v4 =>
            bd (bInt BinOp.add v0 v4) fun v5 =>
              bd (ob3 (some v5) none none fun l h m => slStr x0 l h m) fun v6 =>
                LT Tryd.prog [ResultVar.tmp 4] (pointN Tryd.f55 1) R
                  [v6, x1, LV.junk, LV.junk, LV.junk, v3, LV.junk, LV.junk, LV.junk, LV.junk, LV.junk, LV.junk, LV.junk, LV.junk, LV.junk, LV.junk, LV.junk, LV.junk, LV.junk,
                    LV.junk, LV.junk, LV.junk, LV.junk, LV.junk, LV.junk, LV.junk, LV.junk, LV.junk, LV.junk, LV.junk, LV.junk, LV.junk, LV.junk, LV.junk]
                  st1)
theorem w55_1_eq (x0 x1 x5 : LV) (R : LV → LState → Prop) (st : LState) : levT Tryd.prog [.tmp 4] R [2, 3, 4, 6, 7, 8, 9, 10, 11, 12, 13, 14, 15, 16, 17, 18, 19, 20, 21, 22, 23, 24, 25, 26, 27, 28, 29, 30, 31, 32, 33] [] 3000 (stepIn (pointN Tryd.f55 1)) [x0, x1, .junk, .junk, .junk, x5, .junk, .junk, .junk, .junk, .junk, .junk, .junk, .junk, .junk, .junk, .junk, .junk, .junk, .junk, .junk, .junk, .junk, .junk, .junk, .junk, .junk, .junk, .junk, .junk, .junk, .junk, .junk, .junk] st = w55_1 x0 x1 x5 R st := by kernel_rfl
theorem p55_1 (x0 x1 x5 : LV) {R : LV → LState → Prop} {st : LState} (h : w55_1 x0 x1 x5 R st) : LT Tryd.prog [.tmp 4] (pointN Tryd.f55 1) R [x0, x1, .junk, .junk, .junk, x5, .junk, .junk, .junk, .junk, .junk, .junk, .junk, .junk, .junk, .junk, .junk, .junk, .junk, .junk, .junk, .junk, .junk, .junk, .junk, .junk, .junk, .junk, .junk, .junk, .junk, .junk, .junk, .junk] st :=
  LT.at cm_mixed 3000 (Eq.mpr (w55_1_eq x0 x1 x5 R st) h)

/-- strings.Index -/
def w56 (a0 a1 : LV) (R : LV → LState → Prop) (st : LState) : Prop :=
  LCalls Tryd.prog 76 [a0, a1] st fun v0 st1 => R v0 st1
theorem w56_eq (a0 a1 : LV) (R : LV → LState → Prop) (st : LState) : levT Tryd.prog [.tmp 4] R [] [] 3000 [.code (bodyOf Tryd.f56)] ([a0, a1] ++ List.replicate (Tryd.f56.ntmps - 2) lundef) st = w56 a0 a1 R st := by kernel_rfl
theorem c56 (a0 a1 : LV) {R : LV → LState → Prop} {st : LState} (h : w56 a0 a1 R st) : LCalls Tryd.prog 56 [a0, a1] st R :=
  LCalls.of cm_mixed Tryd.func56 (show Tryd.f56.body = some (bodyOf Tryd.f56) by kernel_rfl) (by kernel_rfl) (show Tryd.f56.results.toList = [.tmp 4] by kernel_rfl) (levT_sound cm_mixed 3000 (Eq.mpr (w56_eq a0 a1 R st) h))

/-- internal.stringslite.IndexByte -/
def w94 (a0 a1 : LV) (R : LV → LState → Prop) (st : LState) : Prop :=
  LCalls Tryd.prog 106 [a0, a1] st fun v0 st1 => R v0 st1
theorem w94_eq (a0 a1 : LV) (R : LV → LState → Prop) (st : LState) : levT Tryd.prog [.tmp 4] R [] [] 3000 [.code (bodyOf Tryd.f94)] ([a0, a1] ++ List.replicate (Tryd.f94.ntmps - 2) lundef) st = w94 a0 a1 R st := by kernel_rfl
theorem c94 (a0 a1 : LV) {R : LV → LState → Prop} {st : LState} (h : w94 a0 a1 R st) : LCalls Tryd.prog 94 [a0, a1] st R :=
  LCalls.of cm_mixed Tryd.func94 (show Tryd.f94.body = some (bodyOf Tryd.f94) by kernel_rfl) (by kernel_rfl) (show Tryd.f94.results.toList = [.tmp 4] by kernel_rfl) (levT_sound cm_mixed 3000 (Eq.mpr (w94_eq a0 a1 R st) h))

/-- flange.address.Match -/
def w12 (a0 a1 : LV) (R : LV → LState → Prop) (st : LState) : Prop :=
  bd2 (lbox st a1) fun v0 st1 =>
    bd (ldA st1 v0 4) fun v2 =>
      LCalls Tryd.prog 23 [a0, LV.str [46]] st1 fun v3 st4 =>
        ldA st4 v0 4 = some v2 ∧
          LCalls Tryd.prog 24 [v2] st4 fun v5 st6 =>
            bd (ldA st6 v0 4) fun v7 =>
              LCalls Tryd.prog 15 [v7] st6 fun v8 st9 =>
                bd (lun UnOp.not v8) fun v10 =>
                  bsel v10 (R (LV.bool false) st9)
                    (bd (lenSl v3) fun v11 =>
                      bd (lenSl v5) fun v12 =>
                        bd (bInt BinOp.gtr v11 v12) fun v13 =>
                          bsel v13 (R (LV.bool false) st9)
                            (bd (lenSl v3) fun v14 =>
                              LT Tryd.prog [ResultVar.tmp 4] (pointN Tryd.f12 1) R
                                [LV.junk, LV.junk, LV.junk, LV.junk, LV.junk, LV.junk, v5, LV.junk, LV.junk, LV.junk, LV.junk, LV.junk, LV.junk, LV.junk, LV.junk, LV.junk, LV.junk,
                                  LV.junk, LV.junk, LV.junk, LV.junk, LV.junk, LV.junk, v3, v14, LV.int IntKind.i64 0, LV.junk, LV.junk, LV.junk, LV.junk, LV.junk, LV.junk, LV.junk,
                                  LV.junk, LV.junk, LV.junk, LV.junk, LV.junk, LV.junk, LV.junk, LV.junk]
                                st9))
theorem w12_eq (a0 a1 : LV) (R : LV → LState → Prop) (st : LState) : levT Tryd.prog [.tmp 4] R [0, 1, 2, 3, 4, 5, 7, 8, 9, 10, 11, 12, 13, 14, 15, 16, 17, 18, 19, 20, 21, 22, 26, 27, 28, 29, 30, 31, 32, 33, 34, 35, 36, 37, 38, 39, 40] [] 3000 [.code (bodyOf Tryd.f12)] ([a0, a1] ++ List.replicate (Tryd.f12.ntmps - 2) lundef) st = w12 a0 a1 R st := by kernel_rfl
theorem c12 (a0 a1 : LV) {R : LV → LState → Prop} {st : LState} (h : w12 a0 a1 R st) : LCalls Tryd.prog 12 [a0, a1] st R :=
  LCalls.of cm_mixed Tryd.func12 (show Tryd.f12.body = some (bodyOf Tryd.f12) by kernel_rfl) (by kernel_rfl) (show Tryd.f12.results.toList = [.tmp 4] by kernel_rfl) (levT_sound cm_mixed 3000 (Eq.mpr (w12_eq a0 a1 R st) h))

/-- flange.address.Match, from point 1 on -/
def w12_1 (x6 x23 x24 x25 : LV) (R : LV → LState → Prop) (st : LState) : Prop :=
  bd (bInt BinOp.lss x25 x24) fun v0 =>
    bsel v0
      (bd (ixSl 1 x23 x25) fun v1 =>
        bd (ld1 st v1) fun v2 =>
          bd (bStr BinOp.neq v2 (LV.str [42])) fun v3 =>
            bsel v3
              (bd (ixSl 1 x6 x25) fun v4 =>
                bd (ld1 st v4) fun v5 =>
                  bd (bStr BinOp.neq v2 v5) fun v6 =>
                    bsel v6 (R (LV.bool false) st)
                      (bd (bInt BinOp.add x25 (LV.int IntKind.i64 1)) fun v7 =>
                        LT Tryd.prog [ResultVar.tmp 4] (pointN Tryd.f12 1) R
                          [LV.junk, LV.junk, LV.junk, LV.junk, LV.junk, LV.junk, x6, LV.junk, LV.junk, LV.junk, LV.junk, LV.junk, LV.junk, LV.junk, LV.junk, LV.junk, LV.junk,
                            LV.junk, LV.junk, LV.junk, LV.junk, LV.junk, LV.junk, x23, x24, v7, LV.junk, LV.junk, LV.junk, LV.junk, LV.junk, LV.junk, LV.junk, LV.junk, LV.junk,
                            LV.junk, LV.junk, LV.junk, LV.junk, LV.junk, LV.junk]
                          st))
              (bd (bInt BinOp.add x25 (LV.int IntKind.i64 1)) fun v8 =>
                LT Tryd.prog [ResultVar.tmp 4] (pointN Tryd.f12 1) R
                  [LV.junk, LV.junk, LV.junk, LV.junk, LV.junk, LV.junk, x6, LV.junk, LV.junk, LV.junk, LV.junk, LV.junk, LV.junk, LV.junk, LV.junk, LV.junk, LV.junk, LV.junk,
                    LV.junk, LV.junk, LV.junk, LV.junk, LV.junk, x23, x24, v8, LV.junk, LV.junk, LV.junk, LV.junk, LV.junk, LV.junk, LV.junk, LV.junk, LV.junk, LV.junk, LV.junk,
                    LV.junk, LV.junk, LV.junk, LV.junk]
                  st))
      (R (LV.bool true) st)
theorem w12_1_eq (x6 x23 x24 x25 : LV) (R : LV → LState → Prop) (st : LState) : levT Tryd.prog [.tmp 4] R [0, 1, 2, 3, 4, 5, 7, 8, 9, 10, 11, 12, 13, 14, 15, 16, 17, 18, 19, 20, 21, 22, 26, 27, 28, 29, 30, 31, 32, 33, 34, 35, 36, 37, 38, 39, 40] [] 3000 (stepIn (pointN Tryd.f12 1)) [.junk, .junk, .junk, .junk, .junk, .junk, x6, .junk, .junk, .junk, .junk, .junk, .junk, .junk, .junk, .junk, .junk, .junk, .junk, .junk, .junk, .junk, .junk, x23, x24, x25, .junk, .junk, .junk, .junk, .junk, .junk, .junk, .junk, .junk, .junk, .junk, .junk, .junk, .junk, .junk] st = w12_1 x6 x23 x24 x25 R st := by kernel_rfl
theorem p12_1 (x6 x23 x24 x25 : LV) {R : LV → LState → Prop} {st : LState} (h : w12_1 x6 x23 x24 x25 R st) : LT Tryd.prog [.tmp 4] (pointN Tryd.f12 1) R [.junk, .junk, .junk, .junk, .junk, .junk, x6, .junk, .junk, .junk, .junk, .junk, .junk, .junk, .junk, .junk, .junk, .junk, .junk, .junk, .junk, .junk, .junk, x23, x24, x25, .junk, .junk, .junk, .junk, .junk, .junk, .junk, .junk, .junk, .junk, .junk, .junk, .junk, .junk, .junk] st :=
  LT.at cm_mixed 3000 (Eq.mpr (w12_1_eq x6 x23 x24 x25 R st) h)

/-- flange.flangelaw17.AddressMatches -/
def w3 (a0 a1 : LV) (R : LV → LState → Prop) (st : LState) : Prop :=
  bd2 (lbox st a1) fun v0 st1 =>
    bd (lenStr a0) fun v2 =>
      bd (bInt BinOp.gtr v2 (LV.int IntKind.i64 100)) fun v3 =>
        bsel v3 (LCalls Tryd.prog 9 [] st1 fun v4 st5 => R v4 st5)
          (bd (ldA st1 v0 4) fun v6 =>
            LCalls Tryd.prog 8 [v6] st1 fun v7 st8 =>
              bsel v7 (LCalls Tryd.prog 9 [] st8 fun v9 st10 => R v9 st10)
                (LCalls Tryd.prog 9 [] st8 fun v11 st12 =>
                  bd (lun UnOp.not v11) fun v13 =>
                    bsel v13 (LCalls Tryd.prog 9 [] st12 fun v14 st15 => R v14 st15)
                      (bd (ldA st12 v0 4) fun v16 =>
                        LCalls Tryd.prog 10 [v16] st12 fun v17 st18 =>
                          nw st18 [LV.str [], LV.str [], LV.str [], LV.int IntKind.i64 0] fun v19 st20 =>
                            bd2 (lmk (stV st20 4 v19 v17)) fun v21 st22 =>
                              bd (ldA st22 v19 4) fun v23 =>
                                LCalls Tryd.prog 11 [v23] st22 fun v24 st25 =>
                                  LT Tryd.prog [ResultVar.tmp 4] (pointN Tryd.f3 1) R
                                    [a0, LV.junk, LV.junk, v0, LV.junk, v19, v24, LV.int IntKind.i64 0, LV.int IntKind.i64 0, LV.int IntKind.i64 0, LV.junk, LV.junk, LV.junk,
                                      LV.junk, LV.junk, LV.junk, LV.junk, LV.junk, LV.junk, LV.junk, LV.junk, LV.junk, LV.junk, LV.junk, LV.junk, LV.junk, LV.junk, LV.junk, LV.junk,
                                      LV.junk, LV.junk, LV.junk, LV.junk, LV.junk, LV.junk, LV.junk, LV.junk, LV.junk, LV.junk, LV.junk, LV.junk, LV.junk, LV.junk, LV.junk, LV.junk,
                                      LV.junk, LV.junk, LV.junk, LV.junk, LV.junk, LV.junk, LV.junk, LV.junk, LV.junk, LV.junk, LV.junk, LV.junk, LV.junk, LV.junk, LV.junk, LV.junk,
                                      LV.junk, LV.junk, LV.junk, LV.junk, LV.junk, LV.junk, LV.junk, LV.junk, LV.junk]
                                    st25)))
theorem w3_eq (a0 a1 : LV) (R : LV → LState → Prop) (st : LState) : levT Tryd.prog [.tmp 4] R [1, 2, 4, 10, 11, 12, 13, 14, 15, 16, 17, 18, 19, 20, 21, 22, 23, 24, 25, 26, 27, 28, 29, 30, 31, 32, 33, 34, 35, 36, 37, 38, 39, 40, 41, 42, 43, 44, 45, 46, 47, 48, 49, 50, 51, 52, 53, 54, 55, 56, 57, 58, 59, 60, 61, 62, 63, 64, 65, 66, 67, 68, 69] [] 3000 [.code (bodyOf Tryd.f3)] ([a0, a1] ++ List.replicate (Tryd.f3.ntmps - 2) lundef) st = w3 a0 a1 R st := by kernel_rfl
theorem c3 (a0 a1 : LV) {R : LV → LState → Prop} {st : LState} (h : w3 a0 a1 R st) : LCalls Tryd.prog 3 [a0, a1] st R :=
  LCalls.of cm_mixed Tryd.func3 (show Tryd.f3.body = some (bodyOf Tryd.f3) by kernel_rfl) (by kernel_rfl) (show Tryd.f3.results.toList = [.tmp 4] by kernel_rfl) (levT_sound cm_mixed 3000 (Eq.mpr (w3_eq a0 a1 R st) h))

/-- flange.flangelaw17.AddressMatches, from point 1 on -/
def w3_1 (x0 x3 x5 x6 x7 x8 x9 : LV) (R : LV → LState → Prop) (st : LState) : Prop :=
  bd (lenStr x0) fun v0 =>
    bd (bInt BinOp.leq x9 v0) fun v1 =>
      bsel v1
        (bd (lenStr x0) fun v2 =>
          bd (bInt BinOp.lss x9 v2) fun v3 =>
            bsel v3
              (bd (ixStr x0 x9) fun v4 =>
                bd (bInt BinOp.neq v4 (LV.int IntKind.u8 46)) fun v5 =>
                  bsel v5
                    (bd (bInt BinOp.add x9 (LV.int IntKind.i64 1)) fun v6 =>
                      LT Tryd.prog [ResultVar.tmp 4] (pointN Tryd.f3 1) R
                        [x0, LV.junk, LV.junk, x3, LV.junk, x5, x6, x7, x8, v6, LV.junk, LV.junk, LV.junk, LV.junk, LV.junk, LV.junk, LV.junk, LV.junk, LV.junk, LV.junk, LV.junk,
                          LV.junk, LV.junk, LV.junk, LV.junk, LV.junk, LV.junk, LV.junk, LV.junk, LV.junk, LV.junk, LV.junk, LV.junk, LV.junk, LV.junk, LV.junk, LV.junk, LV.junk,
                          LV.junk, LV.junk, LV.junk, LV.junk, LV.junk, LV.junk, LV.junk, LV.junk, LV.junk, LV.junk, LV.junk, LV.junk, LV.junk, LV.junk, LV.junk, LV.junk, LV.junk,
                          LV.junk, LV.junk, LV.junk, LV.junk, LV.junk, LV.junk, LV.junk, LV.junk, LV.junk, LV.junk, LV.junk, LV.junk, LV.junk, LV.junk, LV.junk]
                        st)
                    (bd (ob3 (some x8) (some x9) none fun l h m => slStr x0 l h m) fun v7 =>
                      bd (bInt BinOp.add x9 (LV.int IntKind.i64 1)) fun v8 =>
                        bd (bInt BinOp.gtr x7 (LV.int IntKind.i64 2)) fun v9 =>
                          bsel v9 (bd (ldA st x3 4) fun v10 => LCalls Tryd.prog 12 [x0, v10] st fun v11 st12 => bd (bBool BinOp.eql v11 (LV.bool false)) fun v13 => R v13 st12)
                            (bd (bStr BinOp.neq v7 (LV.str [42])) fun v14 =>
                              bsel v14
                                (bd (fAddr 0 x5) fun v15 =>
                                  bd (ixArr 3 1 v15 x7) fun v16 =>
                                    bd (ld1 st v16) fun v17 =>
                                      bd (bStr BinOp.neq v7 v17) fun v18 =>
                                        bsel v18
                                          (bd (ldA st x3 4) fun v19 =>
                                            LCalls Tryd.prog 12 [x0, v19] st fun v20 st21 => bd (bBool BinOp.eql v20 (LV.bool false)) fun v22 => R v22 st21)
                                          (bd (bInt BinOp.add x7 (LV.int IntKind.i64 1)) fun v23 =>
                                            bd (bInt BinOp.add x9 (LV.int IntKind.i64 1)) fun v24 =>
                                              LT Tryd.prog [ResultVar.tmp 4] (pointN Tryd.f3 1) R
                                                [x0, LV.junk, LV.junk, x3, LV.junk, x5, x6, v23, v8, v24, LV.junk, LV.junk, LV.junk, LV.junk, LV.junk, LV.junk, LV.junk, LV.junk,
                                                  LV.junk, LV.junk, LV.junk, LV.junk, LV.junk, LV.junk, LV.junk, LV.junk, LV.junk, LV.junk, LV.junk, LV.junk, LV.junk, LV.junk,
                                                  LV.junk, LV.junk, LV.junk, LV.junk, LV.junk, LV.junk, LV.junk, LV.junk, LV.junk, LV.junk, LV.junk, LV.junk, LV.junk, LV.junk,
                                                  LV.junk, LV.junk, LV.junk, LV.junk, LV.junk, LV.junk, LV.junk, LV.junk, LV.junk, LV.junk, LV.junk, LV.junk, LV.junk, LV.junk,
                                                  LV.junk, LV.junk, LV.junk, LV.junk, LV.junk, LV.junk, LV.junk, LV.junk, LV.junk, LV.junk]
                                                st))
                                (bd (bInt BinOp.add x7 (LV.int IntKind.i64 1)) fun v25 =>
                                  bd (bInt BinOp.add x9 (LV.int IntKind.i64 1)) fun v26 =>
                                    LT Tryd.prog [ResultVar.tmp 4] (pointN Tryd.f3 1) R
                                      [x0, LV.junk, LV.junk, x3, LV.junk, x5, x6, v25, v8, v26, LV.junk, LV.junk, LV.junk, LV.junk, LV.junk, LV.junk, LV.junk, LV.junk, LV.junk,
                                        LV.junk, LV.junk, LV.junk, LV.junk, LV.junk, LV.junk, LV.junk, LV.junk, LV.junk, LV.junk, LV.junk, LV.junk, LV.junk, LV.junk, LV.junk,
                                        LV.junk, LV.junk, LV.junk, LV.junk, LV.junk, LV.junk, LV.junk, LV.junk, LV.junk, LV.junk, LV.junk, LV.junk, LV.junk, LV.junk, LV.junk,
                                        LV.junk, LV.junk, LV.junk, LV.junk, LV.junk, LV.junk, LV.junk, LV.junk, LV.junk, LV.junk, LV.junk, LV.junk, LV.junk, LV.junk, LV.junk,
                                        LV.junk, LV.junk, LV.junk, LV.junk, LV.junk, LV.junk]
                                      st))))
              (bd (ob3 (some x8) (some x9) none fun l h m => slStr x0 l h m) fun v27 =>
                bd (bInt BinOp.add x9 (LV.int IntKind.i64 1)) fun v28 =>
                  bd (bInt BinOp.gtr x7 (LV.int IntKind.i64 2)) fun v29 =>
                    bsel v29 (bd (ldA st x3 4) fun v30 => LCalls Tryd.prog 12 [x0, v30] st fun v31 st32 => bd (bBool BinOp.eql v31 (LV.bool false)) fun v33 => R v33 st32)
                      (bd (bStr BinOp.neq v27 (LV.str [42])) fun v34 =>
                        bsel v34
                          (bd (fAddr 0 x5) fun v35 =>
                            bd (ixArr 3 1 v35 x7) fun v36 =>
                              bd (ld1 st v36) fun v37 =>
                                bd (bStr BinOp.neq v27 v37) fun v38 =>
                                  bsel v38
                                    (bd (ldA st x3 4) fun v39 => LCalls Tryd.prog 12 [x0, v39] st fun v40 st41 => bd (bBool BinOp.eql v40 (LV.bool false)) fun v42 => R v42 st41)
                                    (bd (bInt BinOp.add x7 (LV.int IntKind.i64 1)) fun v43 =>
                                      bd (bInt BinOp.add x9 (LV.int IntKind.i64 1)) fun v44 =>
                                        LT Tryd.prog [ResultVar.tmp 4] (pointN Tryd.f3 1) R
                                          [x0, LV.junk, LV.junk, x3, LV.junk, x5, x6, v43, v28, v44, LV.junk, LV.junk, LV.junk, LV.junk, LV.junk, LV.junk, LV.junk, LV.junk, LV.junk,
                                            LV.junk, LV.junk, LV.junk, LV.junk, LV.junk, LV.junk, LV.junk, LV.junk, LV.junk, LV.junk, LV.junk, LV.junk, LV.junk, LV.junk, LV.junk,
                                            LV.junk, LV.junk, LV.junk, LV.junk, LV.junk, LV.junk, LV.junk, LV.junk, LV.junk, LV.junk, LV.junk, LV.junk, LV.junk, LV.junk, LV.junk,
                                            LV.junk, LV.junk, LV.junk, LV.junk, LV.junk, LV.junk, LV.junk, LV.junk, LV.junk, LV.junk, LV.junk, LV.junk, LV.junk, LV.junk, LV.junk,
                                            LV.junk, LV.junk, LV.junk, LV.junk, LV.junk, LV.junk]
                                          st))
                          (bd (bInt BinOp.add x7 (LV.int IntKind.i64 1)) fun v45 =>
                            bd (bInt BinOp.add x9 (LV.int IntKind.i64 1)) fun v46 =>
                              LT Tryd.prog [ResultVar.tmp 4] (pointN Tryd.f3 1) R
                                [x0, LV.junk, LV.junk, x3, LV.junk, x5, x6, v45, v28, v46, LV.junk, LV.junk, LV.junk, LV.junk, LV.junk, LV.junk, LV.junk, LV.junk, LV.junk, LV.junk,
                                  LV.junk, LV.junk, LV.junk, LV.junk, LV.junk, LV.junk, LV.junk, LV.junk, LV.junk, LV.junk, LV.junk, LV.junk, LV.junk, LV.junk, LV.junk, LV.junk,
                                  LV.junk, LV.junk, LV.junk, LV.junk, LV.junk, LV.junk, LV.junk, LV.junk, LV.junk, LV.junk, LV.junk, LV.junk, LV.junk, LV.junk, LV.junk, LV.junk,
                                  LV.junk, LV.junk, LV.junk, LV.junk, LV.junk, LV.junk, LV.junk, LV.junk, LV.junk, LV.junk, LV.junk, LV.junk, LV.junk, LV.junk, LV.junk, LV.junk,
                                  LV.junk, LV.junk]
                                st))))
        (bd (ldA st x3 4) fun v47 => LCalls Tryd.prog 12 [x0, v47] st fun v48 st49 => bd (bBool BinOp.eql v48 x6) fun v50 => R v50 st49)
theorem w3_1_eq (x0 x3 x5 x6 x7 x8 x9 : LV) (R : LV → LState → Prop) (st : LState) : levT Tryd.prog [.tmp 4] R [1, 2, 4, 10, 11, 12, 13, 14, 15, 16, 17, 18, 19, 20, 21, 22, 23, 24, 25, 26, 27, 28, 29, 30, 31, 32, 33, 34, 35, 36, 37, 38, 39, 40, 41, 42, 43, 44, 45, 46, 47, 48, 49, 50, 51, 52, 53, 54, 55, 56, 57, 58, 59, 60, 61, 62, 63, 64, 65, 66, 67, 68, 69] [] 3000 (stepIn (pointN Tryd.f3 1)) [x0, .junk, .junk, x3, .junk, x5, x6, x7, x8, x9, .junk, .junk, .junk, .junk, .junk, .junk, .junk, .junk, .junk, .junk, .junk, .junk, .junk, .junk, .junk, .junk, .junk, .junk, .junk, .junk, .junk, .junk, .junk, .junk, .junk, .junk, .junk, .junk, .junk, .junk, .junk, .junk, .junk, .junk, .junk, .junk, .junk, .junk, .junk, .junk, .junk, .junk, .junk, .junk, .junk, .junk, .junk, .junk, .junk, .junk, .junk, .junk, .junk, .junk, .junk, .junk, .junk, .junk, .junk, .junk] st = w3_1 x0 x3 x5 x6 x7 x8 x9 R st := by kernel_rfl
theorem p3_1 (x0 x3 x5 x6 x7 x8 x9 : LV) {R : LV → LState → Prop} {st : LState} (h : w3_1 x0 x3 x5 x6 x7 x8 x9 R st) : LT Tryd.prog [.tmp 4] (pointN Tryd.f3 1) R [x0, .junk, .junk, x3, .junk, x5, x6, x7, x8, x9, .junk, .junk, .junk, .junk, .junk, .junk, .junk, .junk, .junk, .junk, .junk, .junk, .junk, .junk, .junk, .junk, .junk, .junk, .junk, .junk, .junk, .junk, .junk, .junk, .junk, .junk, .junk, .junk, .junk, .junk, .junk, .junk, .junk, .junk, .junk, .junk, .junk, .junk, .junk, .junk, .junk, .junk, .junk, .junk, .junk, .junk, .junk, .junk, .junk, .junk, .junk, .junk, .junk, .junk, .junk, .junk, .junk, .junk, .junk, .junk] st :=
  LT.at cm_mixed 3000 (Eq.mpr (w3_1_eq x0 x3 x5 x6 x7 x8 x9 R st) h)

/-- internal.stringslite.Index -/
def w76 (a0 a1 : LV) (R : LV → LState → Prop) (st : LState) : Prop :=
  bd (lenStr a1) fun v0 =>
    bd (bInt BinOp.eql v0 (LV.int IntKind.i64 0)) fun v1 =>
      bsel v1 (R (LV.int IntKind.i64 0) st)
        (bd (bStr BinOp.eql a1 a0) fun v2 =>
          bsel v2 (R (LV.int IntKind.i64 0) st)
            (bd (bInt BinOp.eql v0 (LV.int IntKind.i64 1)) fun v3 =>
              bsel v3 (bd (ixStr a1 (LV.int IntKind.i64 0)) fun v4 => LCalls Tryd.prog 94 [a0, v4] st fun v5 st6 => R v5 st6)
                (bd (lenStr a0) fun v7 =>
                  bd (bInt BinOp.geq v0 v7) fun v8 =>
                    bsel v8 (R (LV.int IntKind.i64 (-1)) st)
                      (bd (ld1 st (LV.glob 0)) fun v9 =>
                        bd (bInt BinOp.leq v0 v9) fun v10 =>
                          bsel v10
                            (bd (lenStr a0) fun v11 =>
                              bd (bInt BinOp.leq v11 (LV.int IntKind.i64 64)) fun v12 =>
                                bsel v12 (LCalls Tryd.prog 95 [a0, a1] st fun v13 st14 => R v13 st14)
                                  (bd (ixStr a1 (LV.int IntKind.i64 0)) fun v15 =>
                                    bd (ixStr a1 (LV.int IntKind.i64 1)) fun v16 =>
                                      bd (lenStr a0) fun v17 =>
                                        bd (bInt BinOp.sub v17 v0) fun v18 =>
                                          bd (bInt BinOp.add v18 (LV.int IntKind.i64 1)) fun v19 =>
                                            LT Tryd.prog [ResultVar.tmp 4] (pointN Tryd.f76 2) R
                                              [a0, a1, LV.junk, LV.junk, LV.junk, v0, v15, v16, LV.int IntKind.i64 0, v19, LV.int IntKind.i64 0, LV.junk, LV.junk, LV.junk, LV.junk,
                                                LV.junk, LV.junk, LV.junk, LV.junk, LV.junk, LV.junk, LV.junk, LV.junk, LV.junk, LV.junk, LV.junk, LV.junk, LV.junk, LV.junk, LV.junk,
                                                LV.junk, LV.junk, LV.junk, LV.junk, LV.junk, LV.junk, LV.junk, LV.junk, LV.junk, LV.junk, LV.junk, LV.junk, LV.junk, LV.junk, LV.junk,
                                                LV.junk, LV.junk, LV.junk, LV.junk, LV.junk, LV.junk, LV.junk, LV.junk, LV.junk, LV.junk, LV.junk, LV.junk, LV.junk, LV.junk, LV.junk,
                                                LV.junk, LV.junk, LV.junk, LV.junk, LV.junk, LV.junk, LV.junk, LV.junk, LV.junk, LV.junk, LV.junk, LV.junk, LV.junk, LV.junk, LV.junk,
                                                LV.junk, LV.junk, LV.junk, LV.junk, LV.junk, LV.junk, LV.junk, LV.junk, LV.junk, LV.junk, LV.junk, LV.junk, LV.junk, LV.junk, LV.junk,
                                                LV.junk, LV.junk, LV.junk, LV.junk, LV.junk, LV.junk, LV.junk, LV.junk, LV.junk, LV.junk, LV.junk, LV.junk, LV.junk, LV.junk, LV.junk,
                                                LV.junk, LV.junk, LV.junk, LV.junk, LV.junk, LV.junk, LV.junk, LV.junk, LV.junk, LV.junk, LV.junk, LV.junk, LV.junk, LV.junk, LV.junk,
                                                LV.junk, LV.junk, LV.junk, LV.junk, LV.junk, LV.junk, LV.junk, LV.junk, LV.junk, LV.junk, LV.junk, LV.junk, LV.junk, LV.junk, LV.junk,
                                                LV.junk, LV.junk, LV.junk, LV.junk, LV.junk, LV.junk, LV.junk, LV.junk]
                                              st))
                            (bd (ixStr a1 (LV.int IntKind.i64 0)) fun v20 =>
                              bd (ixStr a1 (LV.int IntKind.i64 1)) fun v21 =>
                                bd (lenStr a0) fun v22 =>
                                  bd (bInt BinOp.sub v22 v0) fun v23 =>
                                    bd (bInt BinOp.add v23 (LV.int IntKind.i64 1)) fun v24 =>
                                      LT Tryd.prog [ResultVar.tmp 4] (pointN Tryd.f76 2) R
                                        [a0, a1, LV.junk, LV.junk, LV.junk, v0, v20, v21, LV.int IntKind.i64 0, v24, LV.int IntKind.i64 0, LV.junk, LV.junk, LV.junk, LV.junk,
                                          LV.junk, LV.junk, LV.junk, LV.junk, LV.junk, LV.junk, LV.junk, LV.junk, LV.junk, LV.junk, LV.junk, LV.junk, LV.junk, LV.junk, LV.junk,
                                          LV.junk, LV.junk, LV.junk, LV.junk, LV.junk, LV.junk, LV.junk, LV.junk, LV.junk, LV.junk, LV.junk, LV.junk, LV.junk, LV.junk, LV.junk,
                                          LV.junk, LV.junk, LV.junk, LV.junk, LV.junk, LV.junk, LV.junk, LV.junk, LV.junk, LV.junk, LV.junk, LV.junk, LV.junk, LV.junk, LV.junk,
                                          LV.junk, LV.junk, LV.junk, LV.junk, LV.junk, LV.junk, LV.junk, LV.junk, LV.junk, LV.junk, LV.junk, LV.junk, LV.junk, LV.junk, LV.junk,
                                          LV.junk, LV.junk, LV.junk, LV.junk, LV.junk, LV.junk, LV.junk, LV.junk, LV.junk, LV.junk, LV.junk, LV.junk, LV.junk, LV.junk, LV.junk,
                                          LV.junk, LV.junk, LV.junk, LV.junk, LV.junk, LV.junk, LV.junk, LV.junk, LV.junk, LV.junk, LV.junk, LV.junk, LV.junk, LV.junk, LV.junk,
                                          LV.junk, LV.junk, LV.junk, LV.junk, LV.junk, LV.junk, LV.junk, LV.junk, LV.junk, LV.junk, LV.junk, LV.junk, LV.junk, LV.junk, LV.junk,
                                          LV.junk, LV.junk, LV.junk, LV.junk, LV.junk, LV.junk, LV.junk, LV.junk, LV.junk, LV.junk, LV.junk, LV.junk, LV.junk, LV.junk, LV.junk,
                                          LV.junk, LV.junk, LV.junk, LV.junk, LV.junk, LV.junk, LV.junk, LV.junk]
                                        st)))))
theorem w76_eq (a0 a1 : LV) (R : LV → LState → Prop) (st : LState) : levT Tryd.prog [.tmp 4] R [2, 3, 4, 11, 12, 13, 14, 15, 16, 17, 18, 19, 20, 21, 22, 23, 24, 25, 26, 27, 28, 29, 30, 31, 32, 33, 34, 35, 36, 37, 38, 39, 40, 41, 42, 43, 44, 45, 46, 47, 48, 49, 50, 51, 52, 53, 54, 55, 56, 57, 58, 59, 60, 61, 62, 63, 64, 65, 66, 67, 68, 69, 70, 71, 72, 73, 74, 75, 76, 77, 78, 79, 80, 81, 82, 83, 84, 85, 86, 87, 88, 89, 90, 91, 92, 93, 94, 95, 96, 97, 98, 99, 100, 101, 102, 103, 104, 105, 106, 107, 108, 109, 110, 111, 112, 113, 114, 115, 116, 117, 118, 119, 120, 121, 122, 123, 124, 125, 126, 127, 128, 129, 130, 131, 132, 133, 134, 135, 136, 137, 138, 139, 140, 141, 142] [] 3000 [.code (bodyOf Tryd.f76)] ([a0, a1] ++ List.replicate (Tryd.f76.ntmps - 2) lundef) st = w76 a0 a1 R st := by kernel_rfl
theorem c76 (a0 a1 : LV) {R : LV → LState → Prop} {st : LState} (h : w76 a0 a1 R st) : LCalls Tryd.prog 76 [a0, a1] st R :=
  LCalls.of cm_mixed Tryd.func76 (show Tryd.f76.body = some (bodyOf Tryd.f76) by kernel_rfl) (by kernel_rfl) (show Tryd.f76.results.toList = [.tmp 4] by kernel_rfl) (levT_sound cm_mixed 3000 (Eq.mpr (w76_eq a0 a1 R st) h))


end Go.Proofs.YtkjmpjaahgficaaDoor
