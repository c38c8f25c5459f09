/- Walks over the clean machine: what each function does, printed by a program of this work (cmp.py) out of the loaded functions; each is checked by the kernel. -/
import Derived.Test.YtoilmigdaamboaaGreatDoorProg
import Derived.Test.YtoilmigdaamboaaGreatDoorCm24
namespace Go.Proofs.YtoilmigdaamboaaGreatDoor
open Go Go.CM
set_option maxRecDepth 100000
theorem cm_mixed : Tryz.prog.follows .mixedOrders = true := by kernel_rfl

/-- flange.flangelaw31.LintNames -/
def w3 (a0 : LV) (R : LV → LState → Prop) (st : LState) : Prop :=
  bd (bInt BinOp.geq a0 (LV.int IntKind.i64 0)) fun v0 =>
    bsel v0
      (bd (bInt BinOp.lss a0 (LV.int IntKind.i64 8)) fun v1 =>
        bsel v1
          (bd2
            (slNew st 8
              (lfill (fun i => some (i * 1, 1)) (List.replicate 8 [LV.str []]).flatten
                [(0, LV.str [97, 100, 100, 114, 101, 115, 115]), (1, LV.str [116, 119, 105, 99, 101]), (2, LV.str [107, 105, 110, 100]), (3, LV.str [115, 104, 97, 112, 101]),
                  (4, LV.str [110, 101, 101, 100, 115]), (5, LV.str [114, 105, 110, 103]), (6, LV.str [109, 105, 115, 115, 105, 110, 103]), (7, LV.str [116, 104, 101, 114, 101])]))
            fun v2 st3 =>
            bd (ixSl 1 v2 a0) fun v4 =>
              bd (ld1 st3 v4) fun v5 =>
                LCalls Tryz.prog 4 [LV.nilp, LV.nils] st3 fun v6 st7 =>
                  bd (lextract v6 0) fun v8 =>
                    bd (lextract v6 1) fun v9 =>
                      LCalls Tryz.prog 5 [a0] st7 fun v10 st11 =>
                        bd (bStr BinOp.eql v10 v5) fun v12 =>
                          bsel v12
                            (LCalls Tryz.prog 6 [LV.nilp, LV.nils, LV.nils] st11 fun v13 st14 =>
                              bd (lenSl v13) fun v15 =>
                                bd (bInt BinOp.eql v15 (LV.int IntKind.i64 0)) fun v16 =>
                                  bsel v16
                                    (bd (lenSl v8) fun v17 =>
                                      bd (bInt BinOp.eql v17 (LV.int IntKind.i64 0)) fun v18 =>
                                        bsel v18
                                          (bsel v9
                                            (LCalls Tryz.prog 7 [LV.nils] st14 fun v19 st20 =>
                                              bd (bStr BinOp.eql v19 (LV.str [])) fun v21 =>
                                                bsel v21 (LCalls Tryz.prog 8 [] st20 fun v22 st23 => R v22 st23) (R (LV.bool false) st20))
                                            (R (LV.bool false) st14))
                                          (R (LV.bool false) st14))
                                    (R (LV.bool false) st14))
                            (R (LV.bool false) st11))
          (LCalls Tryz.prog 4 [LV.nilp, LV.nils] st fun v24 st25 =>
            bd (lextract v24 0) fun v26 =>
              bd (lextract v24 1) fun v27 =>
                LCalls Tryz.prog 5 [a0] st25 fun v28 st29 =>
                  bd (bStr BinOp.eql v28 (LV.str [])) fun v30 =>
                    bsel v30
                      (LCalls Tryz.prog 6 [LV.nilp, LV.nils, LV.nils] st29 fun v31 st32 =>
                        bd (lenSl v31) fun v33 =>
                          bd (bInt BinOp.eql v33 (LV.int IntKind.i64 0)) fun v34 =>
                            bsel v34
                              (bd (lenSl v26) fun v35 =>
                                bd (bInt BinOp.eql v35 (LV.int IntKind.i64 0)) fun v36 =>
                                  bsel v36
                                    (bsel v27
                                      (LCalls Tryz.prog 7 [LV.nils] st32 fun v37 st38 =>
                                        bd (bStr BinOp.eql v37 (LV.str [])) fun v39 => bsel v39 (LCalls Tryz.prog 8 [] st38 fun v40 st41 => R v40 st41) (R (LV.bool false) st38))
                                      (R (LV.bool false) st32))
                                    (R (LV.bool false) st32))
                              (R (LV.bool false) st32))
                      (R (LV.bool false) st29)))
      (LCalls Tryz.prog 4 [LV.nilp, LV.nils] st fun v42 st43 =>
        bd (lextract v42 0) fun v44 =>
          bd (lextract v42 1) fun v45 =>
            LCalls Tryz.prog 5 [a0] st43 fun v46 st47 =>
              bd (bStr BinOp.eql v46 (LV.str [])) fun v48 =>
                bsel v48
                  (LCalls Tryz.prog 6 [LV.nilp, LV.nils, LV.nils] st47 fun v49 st50 =>
                    bd (lenSl v49) fun v51 =>
                      bd (bInt BinOp.eql v51 (LV.int IntKind.i64 0)) fun v52 =>
                        bsel v52
                          (bd (lenSl v44) fun v53 =>
                            bd (bInt BinOp.eql v53 (LV.int IntKind.i64 0)) fun v54 =>
                              bsel v54
                                (bsel v45
                                  (LCalls Tryz.prog 7 [LV.nils] st50 fun v55 st56 =>
                                    bd (bStr BinOp.eql v55 (LV.str [])) fun v57 => bsel v57 (LCalls Tryz.prog 8 [] st56 fun v58 st59 => R v58 st59) (R (LV.bool false) st56))
                                  (R (LV.bool false) st50))
                                (R (LV.bool false) st50))
                          (R (LV.bool false) st50))
                  (R (LV.bool false) st47))
theorem w3_eq (a0 : LV) (R : LV → LState → Prop) (st : LState) : levT Tryz.prog [.tmp 2] R [] [] 3000 [.code (bodyOf Tryz.f3)] ([a0] ++ List.replicate (Tryz.f3.ntmps - 1) lundef) st = w3 a0 R st := by kernel_rfl
theorem c3 (a0 : LV) {R : LV → LState → Prop} {st : LState} (h : w3 a0 R st) : LCalls Tryz.prog 3 [a0] st R :=
  LCalls.of cm_mixed Tryz.func3 (show Tryz.f3.body = some (bodyOf Tryz.f3) by kernel_rfl) (by kernel_rfl) (show Tryz.f3.results.toList = [.tmp 2] by kernel_rfl) (levT_sound cm_mixed 3000 (Eq.mpr (w3_eq a0 R st) h))

end Go.Proofs.YtoilmigdaamboaaGreatDoor
