/- Walks over the clean machine: what each function does, printed by a program of this work (cmp.py) out of the loaded functions; each is checked by the kernel. -/
import Derived.Test.YtkjmpjaahgficaaQuW2
namespace Go.Proofs.Ytkjmpjaahgficaa
open Go Go.CM
set_option maxRecDepth 100000

/-- flange.flangelaw16.QueueOrders -/
def w3 (a0 a1 : LV) (R : LV → LState → Prop) (st : LState) : Prop :=
  bd (lenSl a0) fun v0 =>
    bd (bInt BinOp.gtr v0 (LV.int IntKind.i64 100)) fun v1 =>
      bsel v1 (LCalls Try.prog 8 [] st fun v2 st3 => R v2 st3)
        (LCalls Try.prog 8 [] st fun v4 st5 =>
          bd (lun UnOp.not v4) fun v6 =>
            bsel v6 (LCalls Try.prog 8 [] st5 fun v7 st8 => R v7 st8)
              (bd (cvInt IntKind.i64 a1) fun v9 =>
                LCalls Try.prog 9 [v9] st5 fun v10 st11 =>
                  bd (lextract v10 0) fun v12 =>
                    bd (lextract v10 1) fun v13 =>
                      LT Try.prog [ResultVar.tmp 4] (pointN Try.f3 1) R
                        [a0, a1, LV.junk, LV.junk, LV.junk, v12, LV.junk, LV.int IntKind.i64 0, LV.junk, LV.junk, LV.tup [], LV.junk, LV.junk, LV.junk, LV.junk, LV.junk, LV.junk,
                          LV.junk, LV.junk, LV.junk, LV.junk, LV.junk, LV.junk, LV.junk, LV.junk, LV.junk, LV.junk, LV.junk, LV.junk, LV.junk, LV.junk, LV.junk, LV.junk, LV.junk,
                          LV.junk, LV.junk, LV.junk, LV.junk, LV.junk, LV.junk, LV.junk, LV.junk, LV.junk, LV.junk, LV.junk, LV.junk, LV.junk, LV.junk, LV.junk, LV.junk, LV.junk,
                          LV.junk, LV.junk, LV.junk, LV.junk, LV.junk, LV.junk, LV.junk, LV.junk, LV.junk, LV.junk, LV.junk, LV.junk, LV.junk, LV.junk, LV.junk, LV.junk, LV.junk,
                          LV.junk, LV.junk, LV.junk, LV.junk, LV.junk, LV.junk, LV.junk, LV.junk, LV.junk, LV.junk, LV.junk, LV.junk, LV.junk, LV.junk, LV.junk, LV.junk, LV.junk,
                          LV.junk, LV.junk, LV.junk, LV.junk, LV.junk, LV.junk, LV.junk, LV.junk, LV.junk, LV.junk, LV.junk, LV.junk, LV.junk, LV.junk, LV.junk, LV.junk, LV.junk,
                          LV.junk, LV.junk]
                        st11))
theorem w3_eq (a0 a1 : LV) (R : LV → LState → Prop) (st : LState) : levT Try.prog [.tmp 4] R [2, 3, 4, 6, 8, 9, 11, 12, 13, 14, 15, 16, 17, 18, 19, 20, 21, 22, 23, 24, 25, 26, 27, 28, 29, 30, 31, 32, 33, 34, 35, 36, 37, 38, 39, 40, 41, 42, 43, 44, 45, 46, 47, 48, 49, 50, 51, 52, 53, 54, 55, 56, 57, 58, 59, 60, 61, 62, 63, 64, 65, 66, 67, 68, 69, 70, 71, 72, 73, 74, 75, 76, 77, 78, 79, 80, 81, 82, 83, 84, 85, 86, 87, 88, 89, 90, 91, 92, 93, 94, 95, 96, 97, 98, 99, 100, 101, 102, 103] [] 3000 [.code (bodyOf Try.f3)] ([a0, a1] ++ List.replicate (Try.f3.ntmps - 2) lundef) st = w3 a0 a1 R st := by kernel_rfl
theorem c3 (a0 a1 : LV) {R : LV → LState → Prop} {st : LState} (h : w3 a0 a1 R st) : LCalls Try.prog 3 [a0, a1] st R :=
  LCalls.of cm_mixed Try.func3 (show Try.f3.body = some (bodyOf Try.f3) by kernel_rfl) (by kernel_rfl) (show Try.f3.results.toList = [.tmp 4] by kernel_rfl) (levT_sound cm_mixed 3000 (Eq.mpr (w3_eq a0 a1 R st) h))

/-- flange.flangelaw16.QueueOrders, from point 1 on -/
def w3_1 (x0 x1 x5 x7 x10 : LV) (R : LV → LState → Prop) (st : LState) : Prop :=
  bd (lenSl x0) fun v0 =>
    bd (bInt BinOp.lss x7 v0) fun v1 =>
      bsel v1
        (bd (ixSl 1 x0 x7) fun v2 =>
          bd (ld1 st v2) fun v3 =>
            LCalls Try.prog 10 [x5, v3] st fun v4 st5 =>
              bd (lextract v4 0) fun v6 =>
                bd (lextract v4 1) fun v7 =>
                  bd (cvInt IntKind.i64 x1) fun v8 =>
                    bd (bInt BinOp.lss x7 v8) fun v9 =>
                      bsel v9
                        (bd (bInt BinOp.add x7 (LV.int IntKind.i64 1)) fun v10 =>
                          bd (bInt BinOp.neq v6 v10) fun v11 =>
                            tsel v11 (R (LV.bool false) st5)
                              (bd (bInt BinOp.neq v7 (LV.int IntKind.i64 0)) fun v12 =>
                                bsel v12 (R (LV.bool false) st5)
                                  (bd (cvInt IntKind.i64 x1) fun v13 =>
                                    bd (bInt BinOp.geq x7 v13) fun v14 =>
                                      tsel v14
                                        (bd (bInt BinOp.neq v7 (LV.int IntKind.i64 10)) fun v15 =>
                                          bsel v15 (R (LV.bool false) st5)
                                            (bd (bInt BinOp.add x7 (LV.int IntKind.i64 1)) fun v16 =>
                                              LT Try.prog [ResultVar.tmp 4] (pointN Try.f3 1) R
                                                [x0, x1, LV.junk, LV.junk, LV.junk, x5, LV.junk, v16, LV.junk, LV.junk, x10, LV.junk, LV.junk, LV.junk, LV.junk, LV.junk, LV.junk,
                                                  LV.junk, LV.junk, LV.junk, LV.junk, LV.junk, LV.junk, LV.junk, LV.junk, LV.junk, LV.junk, LV.junk, LV.junk, LV.junk, LV.junk,
                                                  LV.junk, LV.junk, LV.junk, LV.junk, LV.junk, LV.junk, LV.junk, LV.junk, LV.junk, LV.junk, LV.junk, LV.junk, LV.junk, LV.junk,
                                                  LV.junk, LV.junk, LV.junk, LV.junk, LV.junk, LV.junk, LV.junk, LV.junk, LV.junk, LV.junk, LV.junk, LV.junk, LV.junk, LV.junk,
                                                  LV.junk, LV.junk, LV.junk, LV.junk, LV.junk, LV.junk, LV.junk, LV.junk, LV.junk, LV.junk, LV.junk, LV.junk, LV.junk, LV.junk,
                                                  LV.junk, LV.junk, LV.junk, LV.junk, LV.junk, LV.junk, LV.junk, LV.junk, LV.junk, LV.junk, LV.junk, LV.junk, LV.junk, LV.junk,
                                                  LV.junk, LV.junk, LV.junk, LV.junk, LV.junk, LV.junk, LV.junk, LV.junk, LV.junk, LV.junk, LV.junk, LV.junk, LV.junk, LV.junk,
                                                  LV.junk, LV.junk, LV.junk]
                                                st5))
                                        (bd (bInt BinOp.add x7 (LV.int IntKind.i64 1)) fun v17 =>
                                          LT Try.prog [ResultVar.tmp 4] (pointN Try.f3 1) R
                                            [x0, x1, LV.junk, LV.junk, LV.junk, x5, LV.junk, v17, LV.junk, LV.junk, x10, LV.junk, LV.junk, LV.junk, LV.junk, LV.junk, LV.junk,
                                              LV.junk, LV.junk, LV.junk, LV.junk, LV.junk, LV.junk, LV.junk, LV.junk, LV.junk, LV.junk, LV.junk, LV.junk, LV.junk, LV.junk, LV.junk,
                                              LV.junk, LV.junk, LV.junk, LV.junk, LV.junk, LV.junk, LV.junk, LV.junk, LV.junk, LV.junk, LV.junk, LV.junk, LV.junk, LV.junk, LV.junk,
                                              LV.junk, LV.junk, LV.junk, LV.junk, LV.junk, LV.junk, LV.junk, LV.junk, LV.junk, LV.junk, LV.junk, LV.junk, LV.junk, LV.junk, LV.junk,
                                              LV.junk, LV.junk, LV.junk, LV.junk, LV.junk, LV.junk, LV.junk, LV.junk, LV.junk, LV.junk, LV.junk, LV.junk, LV.junk, LV.junk, LV.junk,
                                              LV.junk, LV.junk, LV.junk, LV.junk, LV.junk, LV.junk, LV.junk, LV.junk, LV.junk, LV.junk, LV.junk, LV.junk, LV.junk, LV.junk, LV.junk,
                                              LV.junk, LV.junk, LV.junk, LV.junk, LV.junk, LV.junk, LV.junk, LV.junk, LV.junk, LV.junk, LV.junk, LV.junk]
                                            st5)
                                        (tsel v14
                                          (bd (bInt BinOp.neq (LV.tup []) (LV.int IntKind.i64 10)) fun v18 =>
                                            bsel v18 (R (LV.bool false) st5)
                                              (bd (bInt BinOp.add x7 (LV.int IntKind.i64 1)) fun v19 =>
                                                LT Try.prog [ResultVar.tmp 4] (pointN Try.f3 1) R
                                                  [x0, x1, LV.junk, LV.junk, LV.junk, x5, LV.junk, v19, LV.junk, LV.junk, x10, LV.junk, LV.junk, LV.junk, LV.junk, LV.junk, LV.junk,
                                                    LV.junk, LV.junk, LV.junk, LV.junk, LV.junk, LV.junk, LV.junk, LV.junk, LV.junk, LV.junk, LV.junk, LV.junk, LV.junk, LV.junk,
                                                    LV.junk, LV.junk, LV.junk, LV.junk, LV.junk, LV.junk, LV.junk, LV.junk, LV.junk, LV.junk, LV.junk, LV.junk, LV.junk, LV.junk,
                                                    LV.junk, LV.junk, LV.junk, LV.junk, LV.junk, LV.junk, LV.junk, LV.junk, LV.junk, LV.junk, LV.junk, LV.junk, LV.junk, LV.junk,
                                                    LV.junk, LV.junk, LV.junk, LV.junk, LV.junk, LV.junk, LV.junk, LV.junk, LV.junk, LV.junk, LV.junk, LV.junk, LV.junk, LV.junk,
                                                    LV.junk, LV.junk, LV.junk, LV.junk, LV.junk, LV.junk, LV.junk, LV.junk, LV.junk, LV.junk, LV.junk, LV.junk, LV.junk, LV.junk,
                                                    LV.junk, LV.junk, LV.junk, LV.junk, LV.junk, LV.junk, LV.junk, LV.junk, LV.junk, LV.junk, LV.junk, LV.junk, LV.junk, LV.junk,
                                                    LV.junk, LV.junk, LV.junk]
                                                  st5))
                                          (bd (bInt BinOp.add x7 (LV.int IntKind.i64 1)) fun v20 =>
                                            LT Try.prog [ResultVar.tmp 4] (pointN Try.f3 1) R
                                              [x0, x1, LV.junk, LV.junk, LV.junk, x5, LV.junk, v20, LV.junk, LV.junk, x10, LV.junk, LV.junk, LV.junk, LV.junk, LV.junk, LV.junk,
                                                LV.junk, LV.junk, LV.junk, LV.junk, LV.junk, LV.junk, LV.junk, LV.junk, LV.junk, LV.junk, LV.junk, LV.junk, LV.junk, LV.junk, LV.junk,
                                                LV.junk, LV.junk, LV.junk, LV.junk, LV.junk, LV.junk, LV.junk, LV.junk, LV.junk, LV.junk, LV.junk, LV.junk, LV.junk, LV.junk, LV.junk,
                                                LV.junk, LV.junk, LV.junk, LV.junk, LV.junk, LV.junk, LV.junk, LV.junk, LV.junk, LV.junk, LV.junk, LV.junk, LV.junk, LV.junk, LV.junk,
                                                LV.junk, LV.junk, LV.junk, LV.junk, LV.junk, LV.junk, LV.junk, LV.junk, LV.junk, LV.junk, LV.junk, LV.junk, LV.junk, LV.junk, LV.junk,
                                                LV.junk, LV.junk, LV.junk, LV.junk, LV.junk, LV.junk, LV.junk, LV.junk, LV.junk, LV.junk, LV.junk, LV.junk, LV.junk, LV.junk, LV.junk,
                                                LV.junk, LV.junk, LV.junk, LV.junk, LV.junk, LV.junk, LV.junk, LV.junk, LV.junk, LV.junk, LV.junk, LV.junk]
                                              st5)
                                          (bd (lpick v14 (LV.tup []) (LV.bool false)) fun v21 =>
                                            bsel v21 (R (LV.bool false) st5)
                                              (bd (bInt BinOp.add x7 (LV.int IntKind.i64 1)) fun v22 =>
                                                LT Try.prog [ResultVar.tmp 4] (pointN Try.f3 1) R
                                                  [x0, x1, LV.junk, LV.junk, LV.junk, x5, LV.junk, v22, LV.junk, LV.junk, x10, LV.junk, LV.junk, LV.junk, LV.junk, LV.junk, LV.junk,
                                                    LV.junk, LV.junk, LV.junk, LV.junk, LV.junk, LV.junk, LV.junk, LV.junk, LV.junk, LV.junk, LV.junk, LV.junk, LV.junk, LV.junk,
                                                    LV.junk, LV.junk, LV.junk, LV.junk, LV.junk, LV.junk, LV.junk, LV.junk, LV.junk, LV.junk, LV.junk, LV.junk, LV.junk, LV.junk,
                                                    LV.junk, LV.junk, LV.junk, LV.junk, LV.junk, LV.junk, LV.junk, LV.junk, LV.junk, LV.junk, LV.junk, LV.junk, LV.junk, LV.junk,
                                                    LV.junk, LV.junk, LV.junk, LV.junk, LV.junk, LV.junk, LV.junk, LV.junk, LV.junk, LV.junk, LV.junk, LV.junk, LV.junk, LV.junk,
                                                    LV.junk, LV.junk, LV.junk, LV.junk, LV.junk, LV.junk, LV.junk, LV.junk, LV.junk, LV.junk, LV.junk, LV.junk, LV.junk, LV.junk,
                                                    LV.junk, LV.junk, LV.junk, LV.junk, LV.junk, LV.junk, LV.junk, LV.junk, LV.junk, LV.junk, LV.junk, LV.junk, LV.junk, LV.junk,
                                                    LV.junk, LV.junk, LV.junk]
                                                  st5)))))
                              (tsel v11 (R (LV.bool false) st5)
                                (bd (bInt BinOp.neq (LV.tup []) (LV.int IntKind.i64 0)) fun v23 =>
                                  bsel v23 (R (LV.bool false) st5)
                                    (bd (cvInt IntKind.i64 x1) fun v24 =>
                                      bd (bInt BinOp.geq x7 v24) fun v25 =>
                                        tsel v25
                                          (bd (bInt BinOp.neq v7 (LV.int IntKind.i64 10)) fun v26 =>
                                            bsel v26 (R (LV.bool false) st5)
                                              (bd (bInt BinOp.add x7 (LV.int IntKind.i64 1)) fun v27 =>
                                                LT Try.prog [ResultVar.tmp 4] (pointN Try.f3 1) R
                                                  [x0, x1, LV.junk, LV.junk, LV.junk, x5, LV.junk, v27, LV.junk, LV.junk, x10, LV.junk, LV.junk, LV.junk, LV.junk, LV.junk, LV.junk,
                                                    LV.junk, LV.junk, LV.junk, LV.junk, LV.junk, LV.junk, LV.junk, LV.junk, LV.junk, LV.junk, LV.junk, LV.junk, LV.junk, LV.junk,
                                                    LV.junk, LV.junk, LV.junk, LV.junk, LV.junk, LV.junk, LV.junk, LV.junk, LV.junk, LV.junk, LV.junk, LV.junk, LV.junk, LV.junk,
                                                    LV.junk, LV.junk, LV.junk, LV.junk, LV.junk, LV.junk, LV.junk, LV.junk, LV.junk, LV.junk, LV.junk, LV.junk, LV.junk, LV.junk,
                                                    LV.junk, LV.junk, LV.junk, LV.junk, LV.junk, LV.junk, LV.junk, LV.junk, LV.junk, LV.junk, LV.junk, LV.junk, LV.junk, LV.junk,
                                                    LV.junk, LV.junk, LV.junk, LV.junk, LV.junk, LV.junk, LV.junk, LV.junk, LV.junk, LV.junk, LV.junk, LV.junk, LV.junk, LV.junk,
                                                    LV.junk, LV.junk, LV.junk, LV.junk, LV.junk, LV.junk, LV.junk, LV.junk, LV.junk, LV.junk, LV.junk, LV.junk, LV.junk, LV.junk,
                                                    LV.junk, LV.junk, LV.junk]
                                                  st5))
                                          (bd (bInt BinOp.add x7 (LV.int IntKind.i64 1)) fun v28 =>
                                            LT Try.prog [ResultVar.tmp 4] (pointN Try.f3 1) R
                                              [x0, x1, LV.junk, LV.junk, LV.junk, x5, LV.junk, v28, LV.junk, LV.junk, x10, LV.junk, LV.junk, LV.junk, LV.junk, LV.junk, LV.junk,
                                                LV.junk, LV.junk, LV.junk, LV.junk, LV.junk, LV.junk, LV.junk, LV.junk, LV.junk, LV.junk, LV.junk, LV.junk, LV.junk, LV.junk, LV.junk,
                                                LV.junk, LV.junk, LV.junk, LV.junk, LV.junk, LV.junk, LV.junk, LV.junk, LV.junk, LV.junk, LV.junk, LV.junk, LV.junk, LV.junk, LV.junk,
                                                LV.junk, LV.junk, LV.junk, LV.junk, LV.junk, LV.junk, LV.junk, LV.junk, LV.junk, LV.junk, LV.junk, LV.junk, LV.junk, LV.junk, LV.junk,
                                                LV.junk, LV.junk, LV.junk, LV.junk, LV.junk, LV.junk, LV.junk, LV.junk, LV.junk, LV.junk, LV.junk, LV.junk, LV.junk, LV.junk, LV.junk,
                                                LV.junk, LV.junk, LV.junk, LV.junk, LV.junk, LV.junk, LV.junk, LV.junk, LV.junk, LV.junk, LV.junk, LV.junk, LV.junk, LV.junk, LV.junk,
                                                LV.junk, LV.junk, LV.junk, LV.junk, LV.junk, LV.junk, LV.junk, LV.junk, LV.junk, LV.junk, LV.junk, LV.junk]
                                              st5)
                                          (tsel v25
                                            (bd (bInt BinOp.neq (LV.tup []) (LV.int IntKind.i64 10)) fun v29 =>
                                              bsel v29 (R (LV.bool false) st5)
                                                (bd (bInt BinOp.add x7 (LV.int IntKind.i64 1)) fun v30 =>
                                                  LT Try.prog [ResultVar.tmp 4] (pointN Try.f3 1) R
                                                    [x0, x1, LV.junk, LV.junk, LV.junk, x5, LV.junk, v30, LV.junk, LV.junk, x10, LV.junk, LV.junk, LV.junk, LV.junk, LV.junk, LV.junk,
                                                      LV.junk, LV.junk, LV.junk, LV.junk, LV.junk, LV.junk, LV.junk, LV.junk, LV.junk, LV.junk, LV.junk, LV.junk, LV.junk, LV.junk,
                                                      LV.junk, LV.junk, LV.junk, LV.junk, LV.junk, LV.junk, LV.junk, LV.junk, LV.junk, LV.junk, LV.junk, LV.junk, LV.junk, LV.junk,
                                                      LV.junk, LV.junk, LV.junk, LV.junk, LV.junk, LV.junk, LV.junk, LV.junk, LV.junk, LV.junk, LV.junk, LV.junk, LV.junk, LV.junk,
                                                      LV.junk, LV.junk, LV.junk, LV.junk, LV.junk, LV.junk, LV.junk, LV.junk, LV.junk, LV.junk, LV.junk, LV.junk, LV.junk, LV.junk,
                                                      LV.junk, LV.junk, LV.junk, LV.junk, LV.junk, LV.junk, LV.junk, LV.junk, LV.junk, LV.junk, LV.junk, LV.junk, LV.junk, LV.junk,
                                                      LV.junk, LV.junk, LV.junk, LV.junk, LV.junk, LV.junk, LV.junk, LV.junk, LV.junk, LV.junk, LV.junk, LV.junk, LV.junk, LV.junk,
                                                      LV.junk, LV.junk, LV.junk]
                                                    st5))
                                            (bd (bInt BinOp.add x7 (LV.int IntKind.i64 1)) fun v31 =>
                                              LT Try.prog [ResultVar.tmp 4] (pointN Try.f3 1) R
                                                [x0, x1, LV.junk, LV.junk, LV.junk, x5, LV.junk, v31, LV.junk, LV.junk, x10, LV.junk, LV.junk, LV.junk, LV.junk, LV.junk, LV.junk,
                                                  LV.junk, LV.junk, LV.junk, LV.junk, LV.junk, LV.junk, LV.junk, LV.junk, LV.junk, LV.junk, LV.junk, LV.junk, LV.junk, LV.junk,
                                                  LV.junk, LV.junk, LV.junk, LV.junk, LV.junk, LV.junk, LV.junk, LV.junk, LV.junk, LV.junk, LV.junk, LV.junk, LV.junk, LV.junk,
                                                  LV.junk, LV.junk, LV.junk, LV.junk, LV.junk, LV.junk, LV.junk, LV.junk, LV.junk, LV.junk, LV.junk, LV.junk, LV.junk, LV.junk,
                                                  LV.junk, LV.junk, LV.junk, LV.junk, LV.junk, LV.junk, LV.junk, LV.junk, LV.junk, LV.junk, LV.junk, LV.junk, LV.junk, LV.junk,
                                                  LV.junk, LV.junk, LV.junk, LV.junk, LV.junk, LV.junk, LV.junk, LV.junk, LV.junk, LV.junk, LV.junk, LV.junk, LV.junk, LV.junk,
                                                  LV.junk, LV.junk, LV.junk, LV.junk, LV.junk, LV.junk, LV.junk, LV.junk, LV.junk, LV.junk, LV.junk, LV.junk, LV.junk, LV.junk,
                                                  LV.junk, LV.junk, LV.junk]
                                                st5)
                                            (bd (lpick v25 (LV.tup []) (LV.bool false)) fun v32 =>
                                              bsel v32 (R (LV.bool false) st5)
                                                (bd (bInt BinOp.add x7 (LV.int IntKind.i64 1)) fun v33 =>
                                                  LT Try.prog [ResultVar.tmp 4] (pointN Try.f3 1) R
                                                    [x0, x1, LV.junk, LV.junk, LV.junk, x5, LV.junk, v33, LV.junk, LV.junk, x10, LV.junk, LV.junk, LV.junk, LV.junk, LV.junk, LV.junk,
                                                      LV.junk, LV.junk, LV.junk, LV.junk, LV.junk, LV.junk, LV.junk, LV.junk, LV.junk, LV.junk, LV.junk, LV.junk, LV.junk, LV.junk,
                                                      LV.junk, LV.junk, LV.junk, LV.junk, LV.junk, LV.junk, LV.junk, LV.junk, LV.junk, LV.junk, LV.junk, LV.junk, LV.junk, LV.junk,
                                                      LV.junk, LV.junk, LV.junk, LV.junk, LV.junk, LV.junk, LV.junk, LV.junk, LV.junk, LV.junk, LV.junk, LV.junk, LV.junk, LV.junk,
                                                      LV.junk, LV.junk, LV.junk, LV.junk, LV.junk, LV.junk, LV.junk, LV.junk, LV.junk, LV.junk, LV.junk, LV.junk, LV.junk, LV.junk,
                                                      LV.junk, LV.junk, LV.junk, LV.junk, LV.junk, LV.junk, LV.junk, LV.junk, LV.junk, LV.junk, LV.junk, LV.junk, LV.junk, LV.junk,
                                                      LV.junk, LV.junk, LV.junk, LV.junk, LV.junk, LV.junk, LV.junk, LV.junk, LV.junk, LV.junk, LV.junk, LV.junk, LV.junk, LV.junk,
                                                      LV.junk, LV.junk, LV.junk]
                                                    st5)))))
                                (bd (lpick v11 (LV.bool true) (LV.tup [])) fun v34 =>
                                  bsel v34 (R (LV.bool false) st5)
                                    (bd (cvInt IntKind.i64 x1) fun v35 =>
                                      bd (bInt BinOp.geq x7 v35) fun v36 =>
                                        tsel v36
                                          (bd (bInt BinOp.neq v7 (LV.int IntKind.i64 10)) fun v37 =>
                                            bsel v37 (R (LV.bool false) st5)
                                              (bd (bInt BinOp.add x7 (LV.int IntKind.i64 1)) fun v38 =>
                                                LT Try.prog [ResultVar.tmp 4] (pointN Try.f3 1) R
                                                  [x0, x1, LV.junk, LV.junk, LV.junk, x5, LV.junk, v38, LV.junk, LV.junk, x10, LV.junk, LV.junk, LV.junk, LV.junk, LV.junk, LV.junk,
                                                    LV.junk, LV.junk, LV.junk, LV.junk, LV.junk, LV.junk, LV.junk, LV.junk, LV.junk, LV.junk, LV.junk, LV.junk, LV.junk, LV.junk,
                                                    LV.junk, LV.junk, LV.junk, LV.junk, LV.junk, LV.junk, LV.junk, LV.junk, LV.junk, LV.junk, LV.junk, LV.junk, LV.junk, LV.junk,
                                                    LV.junk, LV.junk, LV.junk, LV.junk, LV.junk, LV.junk, LV.junk, LV.junk, LV.junk, LV.junk, LV.junk, LV.junk, LV.junk, LV.junk,
                                                    LV.junk, LV.junk, LV.junk, LV.junk, LV.junk, LV.junk, LV.junk, LV.junk, LV.junk, LV.junk, LV.junk, LV.junk, LV.junk, LV.junk,
                                                    LV.junk, LV.junk, LV.junk, LV.junk, LV.junk, LV.junk, LV.junk, LV.junk, LV.junk, LV.junk, LV.junk, LV.junk, LV.junk, LV.junk,
                                                    LV.junk, LV.junk, LV.junk, LV.junk, LV.junk, LV.junk, LV.junk, LV.junk, LV.junk, LV.junk, LV.junk, LV.junk, LV.junk, LV.junk,
                                                    LV.junk, LV.junk, LV.junk]
                                                  st5))
                                          (bd (bInt BinOp.add x7 (LV.int IntKind.i64 1)) fun v39 =>
                                            LT Try.prog [ResultVar.tmp 4] (pointN Try.f3 1) R
                                              [x0, x1, LV.junk, LV.junk, LV.junk, x5, LV.junk, v39, LV.junk, LV.junk, x10, LV.junk, LV.junk, LV.junk, LV.junk, LV.junk, LV.junk,
                                                LV.junk, LV.junk, LV.junk, LV.junk, LV.junk, LV.junk, LV.junk, LV.junk, LV.junk, LV.junk, LV.junk, LV.junk, LV.junk, LV.junk, LV.junk,
                                                LV.junk, LV.junk, LV.junk, LV.junk, LV.junk, LV.junk, LV.junk, LV.junk, LV.junk, LV.junk, LV.junk, LV.junk, LV.junk, LV.junk, LV.junk,
                                                LV.junk, LV.junk, LV.junk, LV.junk, LV.junk, LV.junk, LV.junk, LV.junk, LV.junk, LV.junk, LV.junk, LV.junk, LV.junk, LV.junk, LV.junk,
                                                LV.junk, LV.junk, LV.junk, LV.junk, LV.junk, LV.junk, LV.junk, LV.junk, LV.junk, LV.junk, LV.junk, LV.junk, LV.junk, LV.junk, LV.junk,
                                                LV.junk, LV.junk, LV.junk, LV.junk, LV.junk, LV.junk, LV.junk, LV.junk, LV.junk, LV.junk, LV.junk, LV.junk, LV.junk, LV.junk, LV.junk,
                                                LV.junk, LV.junk, LV.junk, LV.junk, LV.junk, LV.junk, LV.junk, LV.junk, LV.junk, LV.junk, LV.junk, LV.junk]
                                              st5)
                                          (tsel v36
                                            (bd (bInt BinOp.neq (LV.tup []) (LV.int IntKind.i64 10)) fun v40 =>
                                              bsel v40 (R (LV.bool false) st5)
                                                (bd (bInt BinOp.add x7 (LV.int IntKind.i64 1)) fun v41 =>
                                                  LT Try.prog [ResultVar.tmp 4] (pointN Try.f3 1) R
                                                    [x0, x1, LV.junk, LV.junk, LV.junk, x5, LV.junk, v41, LV.junk, LV.junk, x10, LV.junk, LV.junk, LV.junk, LV.junk, LV.junk, LV.junk,
                                                      LV.junk, LV.junk, LV.junk, LV.junk, LV.junk, LV.junk, LV.junk, LV.junk, LV.junk, LV.junk, LV.junk, LV.junk, LV.junk, LV.junk,
                                                      LV.junk, LV.junk, LV.junk, LV.junk, LV.junk, LV.junk, LV.junk, LV.junk, LV.junk, LV.junk, LV.junk, LV.junk, LV.junk, LV.junk,
                                                      LV.junk, LV.junk, LV.junk, LV.junk, LV.junk, LV.junk, LV.junk, LV.junk, LV.junk, LV.junk, LV.junk, LV.junk, LV.junk, LV.junk,
                                                      LV.junk, LV.junk, LV.junk, LV.junk, LV.junk, LV.junk, LV.junk, LV.junk, LV.junk, LV.junk, LV.junk, LV.junk, LV.junk, LV.junk,
                                                      LV.junk, LV.junk, LV.junk, LV.junk, LV.junk, LV.junk, LV.junk, LV.junk, LV.junk, LV.junk, LV.junk, LV.junk, LV.junk, LV.junk,
                                                      LV.junk, LV.junk, LV.junk, LV.junk, LV.junk, LV.junk, LV.junk, LV.junk, LV.junk, LV.junk, LV.junk, LV.junk, LV.junk, LV.junk,
                                                      LV.junk, LV.junk, LV.junk]
                                                    st5))
                                            (bd (bInt BinOp.add x7 (LV.int IntKind.i64 1)) fun v42 =>
                                              LT Try.prog [ResultVar.tmp 4] (pointN Try.f3 1) R
                                                [x0, x1, LV.junk, LV.junk, LV.junk, x5, LV.junk, v42, LV.junk, LV.junk, x10, LV.junk, LV.junk, LV.junk, LV.junk, LV.junk, LV.junk,
                                                  LV.junk, LV.junk, LV.junk, LV.junk, LV.junk, LV.junk, LV.junk, LV.junk, LV.junk, LV.junk, LV.junk, LV.junk, LV.junk, LV.junk,
                                                  LV.junk, LV.junk, LV.junk, LV.junk, LV.junk, LV.junk, LV.junk, LV.junk, LV.junk, LV.junk, LV.junk, LV.junk, LV.junk, LV.junk,
                                                  LV.junk, LV.junk, LV.junk, LV.junk, LV.junk, LV.junk, LV.junk, LV.junk, LV.junk, LV.junk, LV.junk, LV.junk, LV.junk, LV.junk,
                                                  LV.junk, LV.junk, LV.junk, LV.junk, LV.junk, LV.junk, LV.junk, LV.junk, LV.junk, LV.junk, LV.junk, LV.junk, LV.junk, LV.junk,
                                                  LV.junk, LV.junk, LV.junk, LV.junk, LV.junk, LV.junk, LV.junk, LV.junk, LV.junk, LV.junk, LV.junk, LV.junk, LV.junk, LV.junk,
                                                  LV.junk, LV.junk, LV.junk, LV.junk, LV.junk, LV.junk, LV.junk, LV.junk, LV.junk, LV.junk, LV.junk, LV.junk, LV.junk, LV.junk,
                                                  LV.junk, LV.junk, LV.junk]
                                                st5)
                                            (bd (lpick v36 (LV.tup []) (LV.bool false)) fun v43 =>
                                              bsel v43 (R (LV.bool false) st5)
                                                (bd (bInt BinOp.add x7 (LV.int IntKind.i64 1)) fun v44 =>
                                                  LT Try.prog [ResultVar.tmp 4] (pointN Try.f3 1) R
                                                    [x0, x1, LV.junk, LV.junk, LV.junk, x5, LV.junk, v44, LV.junk, LV.junk, x10, LV.junk, LV.junk, LV.junk, LV.junk, LV.junk, LV.junk,
                                                      LV.junk, LV.junk, LV.junk, LV.junk, LV.junk, LV.junk, LV.junk, LV.junk, LV.junk, LV.junk, LV.junk, LV.junk, LV.junk, LV.junk,
                                                      LV.junk, LV.junk, LV.junk, LV.junk, LV.junk, LV.junk, LV.junk, LV.junk, LV.junk, LV.junk, LV.junk, LV.junk, LV.junk, LV.junk,
                                                      LV.junk, LV.junk, LV.junk, LV.junk, LV.junk, LV.junk, LV.junk, LV.junk, LV.junk, LV.junk, LV.junk, LV.junk, LV.junk, LV.junk,
                                                      LV.junk, LV.junk, LV.junk, LV.junk, LV.junk, LV.junk, LV.junk, LV.junk, LV.junk, LV.junk, LV.junk, LV.junk, LV.junk, LV.junk,
                                                      LV.junk, LV.junk, LV.junk, LV.junk, LV.junk, LV.junk, LV.junk, LV.junk, LV.junk, LV.junk, LV.junk, LV.junk, LV.junk, LV.junk,
                                                      LV.junk, LV.junk, LV.junk, LV.junk, LV.junk, LV.junk, LV.junk, LV.junk, LV.junk, LV.junk, LV.junk, LV.junk, LV.junk, LV.junk,
                                                      LV.junk, LV.junk, LV.junk]
                                                    st5)))))))
                        (bd (cvInt IntKind.i64 x1) fun v45 =>
                          bd (bInt BinOp.geq x7 v45) fun v46 =>
                            tsel v46
                              (bd (bInt BinOp.neq v7 (LV.int IntKind.i64 10)) fun v47 =>
                                bsel v47 (R (LV.bool false) st5)
                                  (bd (bInt BinOp.add x7 (LV.int IntKind.i64 1)) fun v48 =>
                                    LT Try.prog [ResultVar.tmp 4] (pointN Try.f3 1) R
                                      [x0, x1, LV.junk, LV.junk, LV.junk, x5, LV.junk, v48, LV.junk, LV.junk, x10, LV.junk, LV.junk, LV.junk, LV.junk, LV.junk, LV.junk, LV.junk,
                                        LV.junk, LV.junk, LV.junk, LV.junk, LV.junk, LV.junk, LV.junk, LV.junk, LV.junk, LV.junk, LV.junk, LV.junk, LV.junk, LV.junk, LV.junk,
                                        LV.junk, LV.junk, LV.junk, LV.junk, LV.junk, LV.junk, LV.junk, LV.junk, LV.junk, LV.junk, LV.junk, LV.junk, LV.junk, LV.junk, LV.junk,
                                        LV.junk, LV.junk, LV.junk, LV.junk, LV.junk, LV.junk, LV.junk, LV.junk, LV.junk, LV.junk, LV.junk, LV.junk, LV.junk, LV.junk, LV.junk,
                                        LV.junk, LV.junk, LV.junk, LV.junk, LV.junk, LV.junk, LV.junk, LV.junk, LV.junk, LV.junk, LV.junk, LV.junk, LV.junk, LV.junk, LV.junk,
                                        LV.junk, LV.junk, LV.junk, LV.junk, LV.junk, LV.junk, LV.junk, LV.junk, LV.junk, LV.junk, LV.junk, LV.junk, LV.junk, LV.junk, LV.junk,
                                        LV.junk, LV.junk, LV.junk, LV.junk, LV.junk, LV.junk, LV.junk, LV.junk, LV.junk, LV.junk, LV.junk]
                                      st5))
                              (bd (bInt BinOp.add x7 (LV.int IntKind.i64 1)) fun v49 =>
                                LT Try.prog [ResultVar.tmp 4] (pointN Try.f3 1) R
                                  [x0, x1, LV.junk, LV.junk, LV.junk, x5, LV.junk, v49, LV.junk, LV.junk, x10, LV.junk, LV.junk, LV.junk, LV.junk, LV.junk, LV.junk, LV.junk, LV.junk,
                                    LV.junk, LV.junk, LV.junk, LV.junk, LV.junk, LV.junk, LV.junk, LV.junk, LV.junk, LV.junk, LV.junk, LV.junk, LV.junk, LV.junk, LV.junk, LV.junk,
                                    LV.junk, LV.junk, LV.junk, LV.junk, LV.junk, LV.junk, LV.junk, LV.junk, LV.junk, LV.junk, LV.junk, LV.junk, LV.junk, LV.junk, LV.junk, LV.junk,
                                    LV.junk, LV.junk, LV.junk, LV.junk, LV.junk, LV.junk, LV.junk, LV.junk, LV.junk, LV.junk, LV.junk, LV.junk, LV.junk, LV.junk, LV.junk, LV.junk,
                                    LV.junk, LV.junk, LV.junk, LV.junk, LV.junk, LV.junk, LV.junk, LV.junk, LV.junk, LV.junk, LV.junk, LV.junk, LV.junk, LV.junk, LV.junk, LV.junk,
                                    LV.junk, LV.junk, LV.junk, LV.junk, LV.junk, LV.junk, LV.junk, LV.junk, LV.junk, LV.junk, LV.junk, LV.junk, LV.junk, LV.junk, LV.junk, LV.junk,
                                    LV.junk, LV.junk, LV.junk, LV.junk, LV.junk]
                                  st5)
                              (tsel v46
                                (bd (bInt BinOp.neq (LV.tup []) (LV.int IntKind.i64 10)) fun v50 =>
                                  bsel v50 (R (LV.bool false) st5)
                                    (bd (bInt BinOp.add x7 (LV.int IntKind.i64 1)) fun v51 =>
                                      LT Try.prog [ResultVar.tmp 4] (pointN Try.f3 1) R
                                        [x0, x1, LV.junk, LV.junk, LV.junk, x5, LV.junk, v51, LV.junk, LV.junk, x10, LV.junk, LV.junk, LV.junk, LV.junk, LV.junk, LV.junk, LV.junk,
                                          LV.junk, LV.junk, LV.junk, LV.junk, LV.junk, LV.junk, LV.junk, LV.junk, LV.junk, LV.junk, LV.junk, LV.junk, LV.junk, LV.junk, LV.junk,
                                          LV.junk, LV.junk, LV.junk, LV.junk, LV.junk, LV.junk, LV.junk, LV.junk, LV.junk, LV.junk, LV.junk, LV.junk, LV.junk, LV.junk, LV.junk,
                                          LV.junk, LV.junk, LV.junk, LV.junk, LV.junk, LV.junk, LV.junk, LV.junk, LV.junk, LV.junk, LV.junk, LV.junk, LV.junk, LV.junk, LV.junk,
                                          LV.junk, LV.junk, LV.junk, LV.junk, LV.junk, LV.junk, LV.junk, LV.junk, LV.junk, LV.junk, LV.junk, LV.junk, LV.junk, LV.junk, LV.junk,
                                          LV.junk, LV.junk, LV.junk, LV.junk, LV.junk, LV.junk, LV.junk, LV.junk, LV.junk, LV.junk, LV.junk, LV.junk, LV.junk, LV.junk, LV.junk,
                                          LV.junk, LV.junk, LV.junk, LV.junk, LV.junk, LV.junk, LV.junk, LV.junk, LV.junk, LV.junk, LV.junk]
                                        st5))
                                (bd (bInt BinOp.add x7 (LV.int IntKind.i64 1)) fun v52 =>
                                  LT Try.prog [ResultVar.tmp 4] (pointN Try.f3 1) R
                                    [x0, x1, LV.junk, LV.junk, LV.junk, x5, LV.junk, v52, LV.junk, LV.junk, x10, LV.junk, LV.junk, LV.junk, LV.junk, LV.junk, LV.junk, LV.junk,
                                      LV.junk, LV.junk, LV.junk, LV.junk, LV.junk, LV.junk, LV.junk, LV.junk, LV.junk, LV.junk, LV.junk, LV.junk, LV.junk, LV.junk, LV.junk, LV.junk,
                                      LV.junk, LV.junk, LV.junk, LV.junk, LV.junk, LV.junk, LV.junk, LV.junk, LV.junk, LV.junk, LV.junk, LV.junk, LV.junk, LV.junk, LV.junk, LV.junk,
                                      LV.junk, LV.junk, LV.junk, LV.junk, LV.junk, LV.junk, LV.junk, LV.junk, LV.junk, LV.junk, LV.junk, LV.junk, LV.junk, LV.junk, LV.junk, LV.junk,
                                      LV.junk, LV.junk, LV.junk, LV.junk, LV.junk, LV.junk, LV.junk, LV.junk, LV.junk, LV.junk, LV.junk, LV.junk, LV.junk, LV.junk, LV.junk, LV.junk,
                                      LV.junk, LV.junk, LV.junk, LV.junk, LV.junk, LV.junk, LV.junk, LV.junk, LV.junk, LV.junk, LV.junk, LV.junk, LV.junk, LV.junk, LV.junk, LV.junk,
                                      LV.junk, LV.junk, LV.junk, LV.junk, LV.junk, LV.junk]
                                    st5)
                                (bd (lpick v46 (LV.tup []) (LV.bool false)) fun v53 =>
                                  bsel v53 (R (LV.bool false) st5)
                                    (bd (bInt BinOp.add x7 (LV.int IntKind.i64 1)) fun v54 =>
                                      LT Try.prog [ResultVar.tmp 4] (pointN Try.f3 1) R
                                        [x0, x1, LV.junk, LV.junk, LV.junk, x5, LV.junk, v54, LV.junk, LV.junk, x10, LV.junk, LV.junk, LV.junk, LV.junk, LV.junk, LV.junk, LV.junk,
                                          LV.junk, LV.junk, LV.junk, LV.junk, LV.junk, LV.junk, LV.junk, LV.junk, LV.junk, LV.junk, LV.junk, LV.junk, LV.junk, LV.junk, LV.junk,
                                          LV.junk, LV.junk, LV.junk, LV.junk, LV.junk, LV.junk, LV.junk, LV.junk, LV.junk, LV.junk, LV.junk, LV.junk, LV.junk, LV.junk, LV.junk,
                                          LV.junk, LV.junk, LV.junk, LV.junk, LV.junk, LV.junk, LV.junk, LV.junk, LV.junk, LV.junk, LV.junk, LV.junk, LV.junk, LV.junk, LV.junk,
                                          LV.junk, LV.junk, LV.junk, LV.junk, LV.junk, LV.junk, LV.junk, LV.junk, LV.junk, LV.junk, LV.junk, LV.junk, LV.junk, LV.junk, LV.junk,
                                          LV.junk, LV.junk, LV.junk, LV.junk, LV.junk, LV.junk, LV.junk, LV.junk, LV.junk, LV.junk, LV.junk, LV.junk, LV.junk, LV.junk, LV.junk,
                                          LV.junk, LV.junk, LV.junk, LV.junk, LV.junk, LV.junk, LV.junk, LV.junk, LV.junk, LV.junk, LV.junk]
                                        st5)))))
        (LT Try.prog [ResultVar.tmp 4] (pointN Try.f3 4) R
          [x0, x1, LV.junk, LV.junk, LV.junk, x5, LV.junk, x7, LV.junk, LV.junk, LV.int IntKind.i64 0, LV.junk, LV.junk, LV.junk, LV.junk, LV.junk, LV.junk, LV.junk, LV.junk,
            LV.junk, LV.junk, LV.junk, LV.junk, LV.junk, LV.junk, LV.junk, LV.junk, LV.junk, LV.junk, LV.junk, LV.junk, LV.junk, LV.junk, LV.junk, LV.junk, LV.junk, LV.junk, LV.junk,
            LV.junk, LV.junk, LV.junk, LV.junk, LV.junk, LV.junk, LV.junk, LV.junk, LV.junk, LV.junk, LV.junk, LV.junk, LV.junk, LV.junk, LV.junk, LV.junk, LV.junk, LV.junk, LV.junk,
            LV.junk, LV.junk, LV.junk, LV.junk, LV.junk, LV.junk, LV.junk, LV.junk, LV.junk, LV.junk, LV.junk, LV.junk, LV.junk, LV.junk, LV.junk, LV.junk, LV.junk, LV.junk, LV.junk,
            LV.junk, LV.junk, LV.junk, LV.junk, LV.junk, LV.junk, LV.junk, LV.junk, LV.junk, LV.junk, LV.junk, LV.junk, LV.junk, LV.junk, LV.junk, LV.junk, LV.junk, LV.junk, LV.junk,
            LV.junk, LV.junk, LV.junk, LV.junk, LV.junk, LV.junk, LV.junk, LV.junk, LV.junk]
          st)
theorem w3_1_eq (x0 x1 x5 x7 x10 : LV) (R : LV → LState → Prop) (st : LState) : levT Try.prog [.tmp 4] R [2, 3, 4, 6, 8, 9, 11, 12, 13, 14, 15, 16, 17, 18, 19, 20, 21, 22, 23, 24, 25, 26, 27, 28, 29, 30, 31, 32, 33, 34, 35, 36, 37, 38, 39, 40, 41, 42, 43, 44, 45, 46, 47, 48, 49, 50, 51, 52, 53, 54, 55, 56, 57, 58, 59, 60, 61, 62, 63, 64, 65, 66, 67, 68, 69, 70, 71, 72, 73, 74, 75, 76, 77, 78, 79, 80, 81, 82, 83, 84, 85, 86, 87, 88, 89, 90, 91, 92, 93, 94, 95, 96, 97, 98, 99, 100, 101, 102, 103] [] 3000 (stepIn (pointN Try.f3 1)) [x0, x1, .junk, .junk, .junk, x5, .junk, x7, .junk, .junk, x10, .junk, .junk, .junk, .junk, .junk, .junk, .junk, .junk, .junk, .junk, .junk, .junk, .junk, .junk, .junk, .junk, .junk, .junk, .junk, .junk, .junk, .junk, .junk, .junk, .junk, .junk, .junk, .junk, .junk, .junk, .junk, .junk, .junk, .junk, .junk, .junk, .junk, .junk, .junk, .junk, .junk, .junk, .junk, .junk, .junk, .junk, .junk, .junk, .junk, .junk, .junk, .junk, .junk, .junk, .junk, .junk, .junk, .junk, .junk, .junk, .junk, .junk, .junk, .junk, .junk, .junk, .junk, .junk, .junk, .junk, .junk, .junk, .junk, .junk, .junk, .junk, .junk, .junk, .junk, .junk, .junk, .junk, .junk, .junk, .junk, .junk, .junk, .junk, .junk, .junk, .junk, .junk, .junk] st = w3_1 x0 x1 x5 x7 x10 R st := by kernel_rfl
theorem p3_1 (x0 x1 x5 x7 x10 : LV) {R : LV → LState → Prop} {st : LState} (h : w3_1 x0 x1 x5 x7 x10 R st) : LT Try.prog [.tmp 4] (pointN Try.f3 1) R [x0, x1, .junk, .junk, .junk, x5, .junk, x7, .junk, .junk, x10, .junk, .junk, .junk, .junk, .junk, .junk, .junk, .junk, .junk, .junk, .junk, .junk, .junk, .junk, .junk, .junk, .junk, .junk, .junk, .junk, .junk, .junk, .junk, .junk, .junk, .junk, .junk, .junk, .junk, .junk, .junk, .junk, .junk, .junk, .junk, .junk, .junk, .junk, .junk, .junk, .junk, .junk, .junk, .junk, .junk, .junk, .junk, .junk, .junk, .junk, .junk, .junk, .junk, .junk, .junk, .junk, .junk, .junk, .junk, .junk, .junk, .junk, .junk, .junk, .junk, .junk, .junk, .junk, .junk, .junk, .junk, .junk, .junk, .junk, .junk, .junk, .junk, .junk, .junk, .junk, .junk, .junk, .junk, .junk, .junk, .junk, .junk, .junk, .junk, .junk, .junk, .junk, .junk] st :=
  LT.at cm_mixed 3000 (Eq.mpr (w3_1_eq x0 x1 x5 x7 x10 R st) h)

/-- flange.flangelaw16.QueueOrders, from point 4 on -/
def w3_4 (x0 x1 x5 x7 x10 : LV) (R : LV → LState → Prop) (st : LState) : Prop :=
  bd (lenSl x0) fun v0 =>
    bd (bInt BinOp.lss x10 v0) fun v1 =>
      bsel v1
        (bd (cvInt IntKind.i64 x1) fun v2 =>
          bd (bInt BinOp.lss x10 v2) fun v3 =>
            bsel v3
              (LCalls Try.prog 11 [x5] st fun v4 st5 =>
                bd (lextract v4 0) fun v6 =>
                  bd (lextract v4 1) fun v7 =>
                    bd (lextract v4 2) fun v8 =>
                      bd (ixSl 1 x0 x10) fun v9 =>
                        bd (ld1 st5 v9) fun v10 =>
                          bd (bStr BinOp.neq v6 v10) fun v11 =>
                            bsel v11 (R (LV.bool false) st5)
                              (bd (bInt BinOp.add x10 (LV.int IntKind.i64 1)) fun v12 =>
                                bd (bInt BinOp.neq v7 v12) fun v13 =>
                                  bsel v13 (R (LV.bool false) st5)
                                    (bd (lun UnOp.not v8) fun v14 =>
                                      bsel v14 (R (LV.bool false) st5)
                                        (bd (bInt BinOp.add x10 (LV.int IntKind.i64 1)) fun v15 =>
                                          LT Try.prog [ResultVar.tmp 4] (pointN Try.f3 4) R
                                            [x0, x1, LV.junk, LV.junk, LV.junk, x5, LV.junk, x7, LV.junk, LV.junk, v15, LV.junk, LV.junk, LV.junk, LV.junk, LV.junk, LV.junk, LV.junk,
                                              LV.junk, LV.junk, LV.junk, LV.junk, LV.junk, LV.junk, LV.junk, LV.junk, LV.junk, LV.junk, LV.junk, LV.junk, LV.junk, LV.junk, LV.junk,
                                              LV.junk, LV.junk, LV.junk, LV.junk, LV.junk, LV.junk, LV.junk, LV.junk, LV.junk, LV.junk, LV.junk, LV.junk, LV.junk, LV.junk, LV.junk,
                                              LV.junk, LV.junk, LV.junk, LV.junk, LV.junk, LV.junk, LV.junk, LV.junk, LV.junk, LV.junk, LV.junk, LV.junk, LV.junk, LV.junk, LV.junk,
                                              LV.junk, LV.junk, LV.junk, LV.junk, LV.junk, LV.junk, LV.junk, LV.junk, LV.junk, LV.junk, LV.junk, LV.junk, LV.junk, LV.junk, LV.junk,
                                              LV.junk, LV.junk, LV.junk, LV.junk, LV.junk, LV.junk, LV.junk, LV.junk, LV.junk, LV.junk, LV.junk, LV.junk, LV.junk, LV.junk, LV.junk,
                                              LV.junk, LV.junk, LV.junk, LV.junk, LV.junk, LV.junk, LV.junk, LV.junk, LV.junk, LV.junk, LV.junk]
                                            st5))))
              (LCalls Try.prog 12 [x5] st fun v16 st17 => bd (bInt BinOp.eql v16 (LV.int IntKind.i64 0)) fun v18 => R v18 st17))
        (LCalls Try.prog 12 [x5] st fun v19 st20 => bd (bInt BinOp.eql v19 (LV.int IntKind.i64 0)) fun v21 => R v21 st20)
theorem w3_4_eq (x0 x1 x5 x7 x10 : LV) (R : LV → LState → Prop) (st : LState) : levT Try.prog [.tmp 4] R [2, 3, 4, 6, 8, 9, 11, 12, 13, 14, 15, 16, 17, 18, 19, 20, 21, 22, 23, 24, 25, 26, 27, 28, 29, 30, 31, 32, 33, 34, 35, 36, 37, 38, 39, 40, 41, 42, 43, 44, 45, 46, 47, 48, 49, 50, 51, 52, 53, 54, 55, 56, 57, 58, 59, 60, 61, 62, 63, 64, 65, 66, 67, 68, 69, 70, 71, 72, 73, 74, 75, 76, 77, 78, 79, 80, 81, 82, 83, 84, 85, 86, 87, 88, 89, 90, 91, 92, 93, 94, 95, 96, 97, 98, 99, 100, 101, 102, 103] [] 3000 (stepIn (pointN Try.f3 4)) [x0, x1, .junk, .junk, .junk, x5, .junk, x7, .junk, .junk, x10, .junk, .junk, .junk, .junk, .junk, .junk, .junk, .junk, .junk, .junk, .junk, .junk, .junk, .junk, .junk, .junk, .junk, .junk, .junk, .junk, .junk, .junk, .junk, .junk, .junk, .junk, .junk, .junk, .junk, .junk, .junk, .junk, .junk, .junk, .junk, .junk, .junk, .junk, .junk, .junk, .junk, .junk, .junk, .junk, .junk, .junk, .junk, .junk, .junk, .junk, .junk, .junk, .junk, .junk, .junk, .junk, .junk, .junk, .junk, .junk, .junk, .junk, .junk, .junk, .junk, .junk, .junk, .junk, .junk, .junk, .junk, .junk, .junk, .junk, .junk, .junk, .junk, .junk, .junk, .junk, .junk, .junk, .junk, .junk, .junk, .junk, .junk, .junk, .junk, .junk, .junk, .junk, .junk] st = w3_4 x0 x1 x5 x7 x10 R st := by kernel_rfl
theorem p3_4 (x0 x1 x5 x7 x10 : LV) {R : LV → LState → Prop} {st : LState} (h : w3_4 x0 x1 x5 x7 x10 R st) : LT Try.prog [.tmp 4] (pointN Try.f3 4) R [x0, x1, .junk, .junk, .junk, x5, .junk, x7, .junk, .junk, x10, .junk, .junk, .junk, .junk, .junk, .junk, .junk, .junk, .junk, .junk, .junk, .junk, .junk, .junk, .junk, .junk, .junk, .junk, .junk, .junk, .junk, .junk, .junk, .junk, .junk, .junk, .junk, .junk, .junk, .junk, .junk, .junk, .junk, .junk, .junk, .junk, .junk, .junk, .junk, .junk, .junk, .junk, .junk, .junk, .junk, .junk, .junk, .junk, .junk, .junk, .junk, .junk, .junk, .junk, .junk, .junk, .junk, .junk, .junk, .junk, .junk, .junk, .junk, .junk, .junk, .junk, .junk, .junk, .junk, .junk, .junk, .junk, .junk, .junk, .junk, .junk, .junk, .junk, .junk, .junk, .junk, .junk, .junk, .junk, .junk, .junk, .junk, .junk, .junk, .junk, .junk, .junk, .junk] st :=
  LT.at cm_mixed 3000 (Eq.mpr (w3_4_eq x0 x1 x5 x7 x10 R st) h)

end Go.Proofs.Ytkjmpjaahgficaa
