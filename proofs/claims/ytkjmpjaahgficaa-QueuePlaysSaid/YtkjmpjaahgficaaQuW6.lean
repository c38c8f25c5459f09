/- Walks over the clean machine: what each function does, printed by a program of this work (cmp.py) out of the loaded functions; each is checked by the kernel. -/
import Derived.Test.YtkjmpjaahgficaaQuW
namespace Go.Proofs.Ytkjmpjaahgficaa
open Go Go.CM
set_option maxRecDepth 100000

/-- flange.flangelaw16.QueueNumbers -/
def w6 (a0 : LV) (R : LV → LState → Prop) (st : LState) : Prop :=
  bd (lenSl a0) fun v0 =>
    bd (bInt BinOp.gtr v0 (LV.int IntKind.i64 200)) fun v1 =>
      bsel v1 (LCalls Try.prog 8 [] st fun v2 st3 => R v2 st3)
        (LCalls Try.prog 8 [] st fun v4 st5 =>
          bd (lun UnOp.not v4) fun v6 =>
            bsel v6 (LCalls Try.prog 8 [] st5 fun v7 st8 => R v7 st8)
              (LCalls Try.prog 13 [LV.int IntKind.i64 20] st5 fun v9 st10 =>
                bd (lextract v9 0) fun v11 =>
                  bd (lextract v9 1) fun v12 =>
                    LT Try.prog [ResultVar.tmp 2] (pointN Try.f6 1) R
                      [a0, LV.junk, LV.junk, v11, LV.junk, LV.int IntKind.i64 0, LV.int IntKind.i64 0, LV.junk, LV.junk, LV.tup [], LV.tup [], LV.junk, LV.junk, LV.junk, LV.junk,
                        LV.junk, LV.junk, LV.junk, LV.junk, LV.junk, LV.junk, LV.junk, LV.junk, LV.junk, LV.junk, LV.junk, LV.junk, LV.junk, LV.junk, LV.junk, LV.junk, LV.junk,
                        LV.junk, LV.junk, LV.junk, LV.junk, LV.junk, LV.junk, LV.junk, LV.junk, LV.junk, LV.junk, LV.junk, LV.junk, LV.junk, LV.junk, LV.junk, LV.junk, LV.junk,
                        LV.junk, LV.junk, LV.junk, LV.junk, LV.junk, LV.junk, LV.junk, LV.junk, LV.junk, LV.junk, LV.junk, LV.junk, LV.junk, LV.junk, LV.junk, LV.junk, LV.junk,
                        LV.junk, LV.junk, LV.junk, LV.junk, LV.junk, LV.junk, LV.junk, LV.junk, LV.junk, LV.junk, LV.junk, LV.junk, LV.junk, LV.junk, LV.junk, LV.junk, LV.junk,
                        LV.junk, LV.junk, LV.junk, LV.junk, LV.junk, LV.junk, LV.junk, LV.junk, LV.junk, LV.junk, LV.junk, LV.junk, LV.junk, LV.junk, LV.junk, LV.junk, LV.junk,
                        LV.junk, LV.junk, LV.junk, LV.junk, LV.junk, LV.junk, LV.junk, LV.junk, LV.junk]
                      st10))
theorem w6_eq (a0 : LV) (R : LV → LState → Prop) (st : LState) : levT Try.prog [.tmp 2] R [1, 2, 4, 7, 8, 11, 12, 13, 14, 15, 16, 17, 18, 19, 20, 21, 22, 23, 24, 25, 26, 27, 28, 29, 30, 31, 32, 33, 34, 35, 36, 37, 38, 39, 40, 41, 42, 43, 44, 45, 46, 47, 48, 49, 50, 51, 52, 53, 54, 55, 56, 57, 58, 59, 60, 61, 62, 63, 64, 65, 66, 67, 68, 69, 70, 71, 72, 73, 74, 75, 76, 77, 78, 79, 80, 81, 82, 83, 84, 85, 86, 87, 88, 89, 90, 91, 92, 93, 94, 95, 96, 97, 98, 99, 100, 101, 102, 103, 104, 105, 106, 107, 108] [] 3000 [.code (bodyOf Try.f6)] ([a0] ++ List.replicate (Try.f6.ntmps - 1) lundef) st = w6 a0 R st := by kernel_rfl
theorem c6 (a0 : LV) {R : LV → LState → Prop} {st : LState} (h : w6 a0 R st) : LCalls Try.prog 6 [a0] st R :=
  LCalls.of cm_mixed Try.func6 (show Try.f6.body = some (bodyOf Try.f6) by kernel_rfl) (by kernel_rfl) (show Try.f6.results.toList = [.tmp 2] by kernel_rfl) (levT_sound cm_mixed 3000 (Eq.mpr (w6_eq a0 R st) h))

/-- flange.flangelaw16.QueueNumbers, from point 1 on -/
def w6_1 (x0 x3 x5 x6 x9 x10 : LV) (R : LV → LState → Prop) (st : LState) : Prop :=
  bd (lenSl x0) fun v0 =>
    bd (bInt BinOp.lss x6 v0) fun v1 =>
      bsel v1
        (bd (ixSl 2 x0 x6) fun v2 =>
          bd (fAddr 0 v2) fun v3 =>
            bd (ld1 st v3) fun v4 =>
              bd (bInt BinOp.rem v4 (LV.int IntKind.u8 4)) fun v5 =>
                bd (bInt BinOp.eql v5 (LV.int IntKind.u8 0)) fun v6 =>
                  bsel v6
                    (LCalls Try.prog 14 [x3, x6] st fun v7 st8 =>
                      bd (lextract v7 0) fun v9 =>
                        bd (lextract v7 1) fun v10 =>
                          bd (bInt BinOp.eql v10 (LV.int IntKind.i64 0)) fun v11 =>
                            bsel v11
                              (bd (bInt BinOp.add x5 (LV.int IntKind.i64 1)) fun v12 =>
                                bd (bInt BinOp.neq v9 v12) fun v13 =>
                                  bsel v13 (R (LV.bool false) st8)
                                    (bd (lmaxs [x5, v9]) fun v14 =>
                                      LCalls Try.prog 21 [x3] st8 fun v15 st16 =>
                                        LT Try.prog [ResultVar.tmp 2] (pointN Try.f6 5) R
                                          [x0, LV.junk, LV.junk, x3, LV.junk, v14, x6, LV.junk, LV.junk, v15, LV.int IntKind.i64 0, LV.junk, LV.junk, LV.junk, LV.junk, LV.junk,
                                            LV.junk, LV.junk, LV.junk, LV.junk, LV.junk, LV.junk, LV.junk, LV.junk, LV.junk, LV.junk, LV.junk, LV.junk, LV.junk, LV.junk, LV.junk,
                                            LV.junk, LV.junk, LV.junk, LV.junk, LV.junk, LV.junk, LV.junk, LV.junk, LV.junk, LV.junk, LV.junk, LV.junk, LV.junk, LV.junk, LV.junk,
                                            LV.junk, LV.junk, LV.junk, LV.junk, LV.junk, LV.junk, LV.junk, LV.junk, LV.junk, LV.junk, LV.junk, LV.junk, LV.junk, LV.junk, LV.junk,
                                            LV.junk, LV.junk, LV.junk, LV.junk, LV.junk, LV.junk, LV.junk, LV.junk, LV.junk, LV.junk, LV.junk, LV.junk, LV.junk, LV.junk, LV.junk,
                                            LV.junk, LV.junk, LV.junk, LV.junk, LV.junk, LV.junk, LV.junk, LV.junk, LV.junk, LV.junk, LV.junk, LV.junk, LV.junk, LV.junk, LV.junk,
                                            LV.junk, LV.junk, LV.junk, LV.junk, LV.junk, LV.junk, LV.junk, LV.junk, LV.junk, LV.junk, LV.junk, LV.junk, LV.junk, LV.junk, LV.junk,
                                            LV.junk, LV.junk, LV.junk]
                                          st16))
                              (bd (lmaxs [x5, v9]) fun v17 =>
                                LCalls Try.prog 21 [x3] st8 fun v18 st19 =>
                                  LT Try.prog [ResultVar.tmp 2] (pointN Try.f6 5) R
                                    [x0, LV.junk, LV.junk, x3, LV.junk, v17, x6, LV.junk, LV.junk, v18, LV.int IntKind.i64 0, LV.junk, LV.junk, LV.junk, LV.junk, LV.junk, LV.junk,
                                      LV.junk, LV.junk, LV.junk, LV.junk, LV.junk, LV.junk, LV.junk, LV.junk, LV.junk, LV.junk, LV.junk, LV.junk, LV.junk, LV.junk, LV.junk, LV.junk,
                                      LV.junk, LV.junk, LV.junk, LV.junk, LV.junk, LV.junk, LV.junk, LV.junk, LV.junk, LV.junk, LV.junk, LV.junk, LV.junk, LV.junk, LV.junk, LV.junk,
                                      LV.junk, LV.junk, LV.junk, LV.junk, LV.junk, LV.junk, LV.junk, LV.junk, LV.junk, LV.junk, LV.junk, LV.junk, LV.junk, LV.junk, LV.junk, LV.junk,
                                      LV.junk, LV.junk, LV.junk, LV.junk, LV.junk, LV.junk, LV.junk, LV.junk, LV.junk, LV.junk, LV.junk, LV.junk, LV.junk, LV.junk, LV.junk, LV.junk,
                                      LV.junk, LV.junk, LV.junk, LV.junk, LV.junk, LV.junk, LV.junk, LV.junk, LV.junk, LV.junk, LV.junk, LV.junk, LV.junk, LV.junk, LV.junk, LV.junk,
                                      LV.junk, LV.junk, LV.junk, LV.junk, LV.junk, LV.junk, LV.junk, LV.junk, LV.junk, LV.junk, LV.junk, LV.junk]
                                    st19))
                    (bd (bInt BinOp.eql v5 (LV.int IntKind.u8 1)) fun v20 =>
                      bsel v20
                        (LCalls Try.prog 15 [x3] st fun v21 st22 =>
                          LCalls Try.prog 21 [x3] st22 fun v23 st24 =>
                            LT Try.prog [ResultVar.tmp 2] (pointN Try.f6 5) R
                              [x0, LV.junk, LV.junk, x3, LV.junk, x5, x6, LV.junk, LV.junk, v23, LV.int IntKind.i64 0, LV.junk, LV.junk, LV.junk, LV.junk, LV.junk, LV.junk, LV.junk,
                                LV.junk, LV.junk, LV.junk, LV.junk, LV.junk, LV.junk, LV.junk, LV.junk, LV.junk, LV.junk, LV.junk, LV.junk, LV.junk, LV.junk, LV.junk, LV.junk,
                                LV.junk, LV.junk, LV.junk, LV.junk, LV.junk, LV.junk, LV.junk, LV.junk, LV.junk, LV.junk, LV.junk, LV.junk, LV.junk, LV.junk, LV.junk, LV.junk,
                                LV.junk, LV.junk, LV.junk, LV.junk, LV.junk, LV.junk, LV.junk, LV.junk, LV.junk, LV.junk, LV.junk, LV.junk, LV.junk, LV.junk, LV.junk, LV.junk,
                                LV.junk, LV.junk, LV.junk, LV.junk, LV.junk, LV.junk, LV.junk, LV.junk, LV.junk, LV.junk, LV.junk, LV.junk, LV.junk, LV.junk, LV.junk, LV.junk,
                                LV.junk, LV.junk, LV.junk, LV.junk, LV.junk, LV.junk, LV.junk, LV.junk, LV.junk, LV.junk, LV.junk, LV.junk, LV.junk, LV.junk, LV.junk, LV.junk,
                                LV.junk, LV.junk, LV.junk, LV.junk, LV.junk, LV.junk, LV.junk, LV.junk, LV.junk, LV.junk, LV.junk]
                              st24)
                        (bd (bInt BinOp.eql v5 (LV.int IntKind.u8 2)) fun v25 =>
                          bsel v25
                            (bd (ixSl 2 x0 x6) fun v26 =>
                              bd (fAddr 1 v26) fun v27 =>
                                bd (ld1 st v27) fun v28 =>
                                  LCalls Try.prog 16 [x3, v28] st fun v29 st30 =>
                                    LCalls Try.prog 21 [x3] st30 fun v31 st32 =>
                                      LT Try.prog [ResultVar.tmp 2] (pointN Try.f6 5) R
                                        [x0, LV.junk, LV.junk, x3, LV.junk, x5, x6, LV.junk, LV.junk, v31, LV.int IntKind.i64 0, LV.junk, LV.junk, LV.junk, LV.junk, LV.junk, LV.junk,
                                          LV.junk, LV.junk, LV.junk, LV.junk, LV.junk, LV.junk, LV.junk, LV.junk, LV.junk, LV.junk, LV.junk, LV.junk, LV.junk, LV.junk, LV.junk,
                                          LV.junk, LV.junk, LV.junk, LV.junk, LV.junk, LV.junk, LV.junk, LV.junk, LV.junk, LV.junk, LV.junk, LV.junk, LV.junk, LV.junk, LV.junk,
                                          LV.junk, LV.junk, LV.junk, LV.junk, LV.junk, LV.junk, LV.junk, LV.junk, LV.junk, LV.junk, LV.junk, LV.junk, LV.junk, LV.junk, LV.junk,
                                          LV.junk, LV.junk, LV.junk, LV.junk, LV.junk, LV.junk, LV.junk, LV.junk, LV.junk, LV.junk, LV.junk, LV.junk, LV.junk, LV.junk, LV.junk,
                                          LV.junk, LV.junk, LV.junk, LV.junk, LV.junk, LV.junk, LV.junk, LV.junk, LV.junk, LV.junk, LV.junk, LV.junk, LV.junk, LV.junk, LV.junk,
                                          LV.junk, LV.junk, LV.junk, LV.junk, LV.junk, LV.junk, LV.junk, LV.junk, LV.junk, LV.junk, LV.junk, LV.junk, LV.junk, LV.junk, LV.junk,
                                          LV.junk, LV.junk]
                                        st32)
                            (LCalls Try.prog 17 [x3] st fun v33 st34 =>
                              LCalls Try.prog 21 [x3] st34 fun v35 st36 =>
                                LT Try.prog [ResultVar.tmp 2] (pointN Try.f6 5) R
                                  [x0, LV.junk, LV.junk, x3, LV.junk, x5, x6, LV.junk, LV.junk, v35, LV.int IntKind.i64 0, LV.junk, LV.junk, LV.junk, LV.junk, LV.junk, LV.junk,
                                    LV.junk, LV.junk, LV.junk, LV.junk, LV.junk, LV.junk, LV.junk, LV.junk, LV.junk, LV.junk, LV.junk, LV.junk, LV.junk, LV.junk, LV.junk, LV.junk,
                                    LV.junk, LV.junk, LV.junk, LV.junk, LV.junk, LV.junk, LV.junk, LV.junk, LV.junk, LV.junk, LV.junk, LV.junk, LV.junk, LV.junk, LV.junk, LV.junk,
                                    LV.junk, LV.junk, LV.junk, LV.junk, LV.junk, LV.junk, LV.junk, LV.junk, LV.junk, LV.junk, LV.junk, LV.junk, LV.junk, LV.junk, LV.junk, LV.junk,
                                    LV.junk, LV.junk, LV.junk, LV.junk, LV.junk, LV.junk, LV.junk, LV.junk, LV.junk, LV.junk, LV.junk, LV.junk, LV.junk, LV.junk, LV.junk, LV.junk,
                                    LV.junk, LV.junk, LV.junk, LV.junk, LV.junk, LV.junk, LV.junk, LV.junk, LV.junk, LV.junk, LV.junk, LV.junk, LV.junk, LV.junk, LV.junk, LV.junk,
                                    LV.junk, LV.junk, LV.junk, LV.junk, LV.junk, LV.junk, LV.junk, LV.junk, LV.junk, LV.junk, LV.junk, LV.junk]
                                  st36))))
        (LCalls Try.prog 20 [x3] st fun v37 st38 => bd (bInt BinOp.leq v37 (LV.int IntKind.i64 20)) fun v39 => R v39 st38)
theorem w6_1_eq (x0 x3 x5 x6 x9 x10 : LV) (R : LV → LState → Prop) (st : LState) : levT Try.prog [.tmp 2] R [1, 2, 4, 7, 8, 11, 12, 13, 14, 15, 16, 17, 18, 19, 20, 21, 22, 23, 24, 25, 26, 27, 28, 29, 30, 31, 32, 33, 34, 35, 36, 37, 38, 39, 40, 41, 42, 43, 44, 45, 46, 47, 48, 49, 50, 51, 52, 53, 54, 55, 56, 57, 58, 59, 60, 61, 62, 63, 64, 65, 66, 67, 68, 69, 70, 71, 72, 73, 74, 75, 76, 77, 78, 79, 80, 81, 82, 83, 84, 85, 86, 87, 88, 89, 90, 91, 92, 93, 94, 95, 96, 97, 98, 99, 100, 101, 102, 103, 104, 105, 106, 107, 108] [] 3000 (stepIn (pointN Try.f6 1)) [x0, .junk, .junk, x3, .junk, x5, x6, .junk, .junk, x9, x10, .junk, .junk, .junk, .junk, .junk, .junk, .junk, .junk, .junk, .junk, .junk, .junk, .junk, .junk, .junk, .junk, .junk, .junk, .junk, .junk, .junk, .junk, .junk, .junk, .junk, .junk, .junk, .junk, .junk, .junk, .junk, .junk, .junk, .junk, .junk, .junk, .junk, .junk, .junk, .junk, .junk, .junk, .junk, .junk, .junk, .junk, .junk, .junk, .junk, .junk, .junk, .junk, .junk, .junk, .junk, .junk, .junk, .junk, .junk, .junk, .junk, .junk, .junk, .junk, .junk, .junk, .junk, .junk, .junk, .junk, .junk, .junk, .junk, .junk, .junk, .junk, .junk, .junk, .junk, .junk, .junk, .junk, .junk, .junk, .junk, .junk, .junk, .junk, .junk, .junk, .junk, .junk, .junk, .junk, .junk, .junk, .junk, .junk] st = w6_1 x0 x3 x5 x6 x9 x10 R st := by kernel_rfl
theorem p6_1 (x0 x3 x5 x6 x9 x10 : LV) {R : LV → LState → Prop} {st : LState} (h : w6_1 x0 x3 x5 x6 x9 x10 R st) : LT Try.prog [.tmp 2] (pointN Try.f6 1) R [x0, .junk, .junk, x3, .junk, x5, x6, .junk, .junk, x9, x10, .junk, .junk, .junk, .junk, .junk, .junk, .junk, .junk, .junk, .junk, .junk, .junk, .junk, .junk, .junk, .junk, .junk, .junk, .junk, .junk, .junk, .junk, .junk, .junk, .junk, .junk, .junk, .junk, .junk, .junk, .junk, .junk, .junk, .junk, .junk, .junk, .junk, .junk, .junk, .junk, .junk, .junk, .junk, .junk, .junk, .junk, .junk, .junk, .junk, .junk, .junk, .junk, .junk, .junk, .junk, .junk, .junk, .junk, .junk, .junk, .junk, .junk, .junk, .junk, .junk, .junk, .junk, .junk, .junk, .junk, .junk, .junk, .junk, .junk, .junk, .junk, .junk, .junk, .junk, .junk, .junk, .junk, .junk, .junk, .junk, .junk, .junk, .junk, .junk, .junk, .junk, .junk, .junk, .junk, .junk, .junk, .junk, .junk] st :=
  LT.at cm_mixed 3000 (Eq.mpr (w6_1_eq x0 x3 x5 x6 x9 x10 R st) h)

/-- flange.flangelaw16.QueueNumbers, from point 5 on -/
def w6_5 (x0 x3 x5 x6 x9 x10 : LV) (R : LV → LState → Prop) (st : LState) : Prop :=
  bd (lenSl x9) fun v0 =>
    bd (bInt BinOp.lss x10 v0) fun v1 =>
      bsel v1
        (bd (ixSl 1 x9 x10) fun v2 =>
          bd (ld1 st v2) fun v3 =>
            bd (bInt BinOp.lss v3 (LV.int IntKind.i64 1)) fun v4 =>
              bsel v4 (R (LV.bool false) st)
                (bd (ixSl 1 x9 x10) fun v5 =>
                  bd (ld1 st v5) fun v6 =>
                    bd (bInt BinOp.gtr v6 x5) fun v7 =>
                      bsel v7 (R (LV.bool false) st)
                        (bd (bInt BinOp.gtr x10 (LV.int IntKind.i64 0)) fun v8 =>
                          bsel v8
                            (bd (bInt BinOp.sub x10 (LV.int IntKind.i64 1)) fun v9 =>
                              bd (ixSl 1 x9 v9) fun v10 =>
                                bd (ld1 st v10) fun v11 =>
                                  bd (ixSl 1 x9 x10) fun v12 =>
                                    bd (ld1 st v12) fun v13 =>
                                      bd (bInt BinOp.geq v11 v13) fun v14 =>
                                        bsel v14 (R (LV.bool false) st)
                                          (bd (bInt BinOp.add x10 (LV.int IntKind.i64 1)) fun v15 =>
                                            LT Try.prog [ResultVar.tmp 2] (pointN Try.f6 5) R
                                              [x0, LV.junk, LV.junk, x3, LV.junk, x5, x6, LV.junk, LV.junk, x9, v15, LV.junk, LV.junk, LV.junk, LV.junk, LV.junk, LV.junk, LV.junk,
                                                LV.junk, LV.junk, LV.junk, LV.junk, LV.junk, LV.junk, LV.junk, LV.junk, LV.junk, LV.junk, LV.junk, LV.junk, LV.junk, LV.junk, LV.junk,
                                                LV.junk, LV.junk, LV.junk, LV.junk, LV.junk, LV.junk, LV.junk, LV.junk, LV.junk, LV.junk, LV.junk, LV.junk, LV.junk, LV.junk, LV.junk,
                                                LV.junk, LV.junk, LV.junk, LV.junk, LV.junk, LV.junk, LV.junk, LV.junk, LV.junk, LV.junk, LV.junk, LV.junk, LV.junk, LV.junk, LV.junk,
                                                LV.junk, LV.junk, LV.junk, LV.junk, LV.junk, LV.junk, LV.junk, LV.junk, LV.junk, LV.junk, LV.junk, LV.junk, LV.junk, LV.junk, LV.junk,
                                                LV.junk, LV.junk, LV.junk, LV.junk, LV.junk, LV.junk, LV.junk, LV.junk, LV.junk, LV.junk, LV.junk, LV.junk, LV.junk, LV.junk, LV.junk,
                                                LV.junk, LV.junk, LV.junk, LV.junk, LV.junk, LV.junk, LV.junk, LV.junk, LV.junk, LV.junk, LV.junk, LV.junk, LV.junk, LV.junk, LV.junk,
                                                LV.junk]
                                              st))
                            (bd (bInt BinOp.add x10 (LV.int IntKind.i64 1)) fun v16 =>
                              LT Try.prog [ResultVar.tmp 2] (pointN Try.f6 5) R
                                [x0, LV.junk, LV.junk, x3, LV.junk, x5, x6, LV.junk, LV.junk, x9, v16, LV.junk, LV.junk, LV.junk, LV.junk, LV.junk, LV.junk, LV.junk, LV.junk,
                                  LV.junk, LV.junk, LV.junk, LV.junk, LV.junk, LV.junk, LV.junk, LV.junk, LV.junk, LV.junk, LV.junk, LV.junk, LV.junk, LV.junk, LV.junk, LV.junk,
                                  LV.junk, LV.junk, LV.junk, LV.junk, LV.junk, LV.junk, LV.junk, LV.junk, LV.junk, LV.junk, LV.junk, LV.junk, LV.junk, LV.junk, LV.junk, LV.junk,
                                  LV.junk, LV.junk, LV.junk, LV.junk, LV.junk, LV.junk, LV.junk, LV.junk, LV.junk, LV.junk, LV.junk, LV.junk, LV.junk, LV.junk, LV.junk, LV.junk,
                                  LV.junk, LV.junk, LV.junk, LV.junk, LV.junk, LV.junk, LV.junk, LV.junk, LV.junk, LV.junk, LV.junk, LV.junk, LV.junk, LV.junk, LV.junk, LV.junk,
                                  LV.junk, LV.junk, LV.junk, LV.junk, LV.junk, LV.junk, LV.junk, LV.junk, LV.junk, LV.junk, LV.junk, LV.junk, LV.junk, LV.junk, LV.junk, LV.junk,
                                  LV.junk, LV.junk, LV.junk, LV.junk, LV.junk, LV.junk, LV.junk, LV.junk, LV.junk, LV.junk]
                                st))))
        (bd (bInt BinOp.add x6 (LV.int IntKind.i64 1)) fun v17 =>
          LT Try.prog [ResultVar.tmp 2] (pointN Try.f6 1) R
            [x0, LV.junk, LV.junk, x3, LV.junk, x5, v17, LV.junk, LV.junk, x9, x10, LV.junk, LV.junk, LV.junk, LV.junk, LV.junk, LV.junk, LV.junk, LV.junk, LV.junk, LV.junk, LV.junk,
              LV.junk, LV.junk, LV.junk, LV.junk, LV.junk, LV.junk, LV.junk, LV.junk, LV.junk, LV.junk, LV.junk, LV.junk, LV.junk, LV.junk, LV.junk, LV.junk, LV.junk, LV.junk,
              LV.junk, LV.junk, LV.junk, LV.junk, LV.junk, LV.junk, LV.junk, LV.junk, LV.junk, LV.junk, LV.junk, LV.junk, LV.junk, LV.junk, LV.junk, LV.junk, LV.junk, LV.junk,
              LV.junk, LV.junk, LV.junk, LV.junk, LV.junk, LV.junk, LV.junk, LV.junk, LV.junk, LV.junk, LV.junk, LV.junk, LV.junk, LV.junk, LV.junk, LV.junk, LV.junk, LV.junk,
              LV.junk, LV.junk, LV.junk, LV.junk, LV.junk, LV.junk, LV.junk, LV.junk, LV.junk, LV.junk, LV.junk, LV.junk, LV.junk, LV.junk, LV.junk, LV.junk, LV.junk, LV.junk,
              LV.junk, LV.junk, LV.junk, LV.junk, LV.junk, LV.junk, LV.junk, LV.junk, LV.junk, LV.junk, LV.junk, LV.junk, LV.junk, LV.junk, LV.junk]
            st)
theorem w6_5_eq (x0 x3 x5 x6 x9 x10 : LV) (R : LV → LState → Prop) (st : LState) : levT Try.prog [.tmp 2] R [1, 2, 4, 7, 8, 11, 12, 13, 14, 15, 16, 17, 18, 19, 20, 21, 22, 23, 24, 25, 26, 27, 28, 29, 30, 31, 32, 33, 34, 35, 36, 37, 38, 39, 40, 41, 42, 43, 44, 45, 46, 47, 48, 49, 50, 51, 52, 53, 54, 55, 56, 57, 58, 59, 60, 61, 62, 63, 64, 65, 66, 67, 68, 69, 70, 71, 72, 73, 74, 75, 76, 77, 78, 79, 80, 81, 82, 83, 84, 85, 86, 87, 88, 89, 90, 91, 92, 93, 94, 95, 96, 97, 98, 99, 100, 101, 102, 103, 104, 105, 106, 107, 108] [] 3000 (stepIn (pointN Try.f6 5)) [x0, .junk, .junk, x3, .junk, x5, x6, .junk, .junk, x9, x10, .junk, .junk, .junk, .junk, .junk, .junk, .junk, .junk, .junk, .junk, .junk, .junk, .junk, .junk, .junk, .junk, .junk, .junk, .junk, .junk, .junk, .junk, .junk, .junk, .junk, .junk, .junk, .junk, .junk, .junk, .junk, .junk, .junk, .junk, .junk, .junk, .junk, .junk, .junk, .junk, .junk, .junk, .junk, .junk, .junk, .junk, .junk, .junk, .junk, .junk, .junk, .junk, .junk, .junk, .junk, .junk, .junk, .junk, .junk, .junk, .junk, .junk, .junk, .junk, .junk, .junk, .junk, .junk, .junk, .junk, .junk, .junk, .junk, .junk, .junk, .junk, .junk, .junk, .junk, .junk, .junk, .junk, .junk, .junk, .junk, .junk, .junk, .junk, .junk, .junk, .junk, .junk, .junk, .junk, .junk, .junk, .junk, .junk] st = w6_5 x0 x3 x5 x6 x9 x10 R st := by kernel_rfl
theorem p6_5 (x0 x3 x5 x6 x9 x10 : LV) {R : LV → LState → Prop} {st : LState} (h : w6_5 x0 x3 x5 x6 x9 x10 R st) : LT Try.prog [.tmp 2] (pointN Try.f6 5) R [x0, .junk, .junk, x3, .junk, x5, x6, .junk, .junk, x9, x10, .junk, .junk, .junk, .junk, .junk, .junk, .junk, .junk, .junk, .junk, .junk, .junk, .junk, .junk, .junk, .junk, .junk, .junk, .junk, .junk, .junk, .junk, .junk, .junk, .junk, .junk, .junk, .junk, .junk, .junk, .junk, .junk, .junk, .junk, .junk, .junk, .junk, .junk, .junk, .junk, .junk, .junk, .junk, .junk, .junk, .junk, .junk, .junk, .junk, .junk, .junk, .junk, .junk, .junk, .junk, .junk, .junk, .junk, .junk, .junk, .junk, .junk, .junk, .junk, .junk, .junk, .junk, .junk, .junk, .junk, .junk, .junk, .junk, .junk, .junk, .junk, .junk, .junk, .junk, .junk, .junk, .junk, .junk, .junk, .junk, .junk, .junk, .junk, .junk, .junk, .junk, .junk, .junk, .junk, .junk, .junk, .junk, .junk] st :=
  LT.at cm_mixed 3000 (Eq.mpr (w6_5_eq x0 x3 x5 x6 x9 x10 R st) h)

end Go.Proofs.Ytkjmpjaahgficaa
