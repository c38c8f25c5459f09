/- Walks over the clean machine: what each function does, printed by a program of this work (cmp.py) out of the loaded functions; each is checked by the kernel. -/
import Derived.Test.YtgpllhhgfbkakaaGreatDoorProg
import Derived.Test.YtgpllhhgfbkakaaGreatDoorCm24
namespace Go.Proofs.YtgpllhhgfbkakaaGreatDoor
open Go Go.CM
set_option maxRecDepth 100000
theorem cm_mixed : Tryz.prog.follows .mixedOrders = true := by kernel_rfl

/-- flange.flangelaw27.HostNone -/
def w3 (a0 a1 a2 : LV) (R : LV → LState → Prop) (st : LState) : Prop :=
  bd (lenStr a0) fun v0 =>
    bd (bInt BinOp.gtr v0 (LV.int IntKind.i64 60)) fun v1 =>
      bsel v1 (LCalls Tryz.prog 4 [] st fun v2 st3 => R v2 st3)
        (bd (lenSl a1) fun v4 =>
          bd (bInt BinOp.gtr v4 (LV.int IntKind.i64 60)) fun v5 =>
            bsel v5 (LCalls Tryz.prog 4 [] st fun v6 st7 => R v6 st7)
              (LCalls Tryz.prog 4 [] st fun v8 st9 =>
                bd (lun UnOp.not v8) fun v10 =>
                  bsel v10 (LCalls Tryz.prog 4 [] st9 fun v11 st12 => R v11 st12)
                    (LCalls Tryz.prog 6 [] st9 fun v13 st14 =>
                      LCalls Tryz.prog 5 [LV.nilp, a0, v13] st14 fun v15 st16 =>
                        bd (lextract v15 0) fun _v17 =>
                          bd (lextract v15 1) fun v18 =>
                            LCalls Tryz.prog 7 [LV.nilp, a0, LV.bool true] st16 fun v19 st20 =>
                              bd (lextract v19 0) fun _v21 =>
                                bd (lextract v19 1) fun v22 =>
                                  LCalls Tryz.prog 8 [LV.nilp, a0, a1] st20 fun v23 st24 =>
                                    bd (lextract v23 0) fun _v25 =>
                                      bd (lextract v23 1) fun v26 =>
                                        LCalls Tryz.prog 9 [LV.nilp, a0] st24 fun v27 st28 =>
                                          bd (lextract v27 0) fun _v29 =>
                                            bd (lextract v27 1) fun v30 =>
                                              bd
                                                (mkAgg
                                                  (lfill (placesL [(0, 1), (1, 4), (5, 1), (6, 1), (7, 1)])
                                                    [LV.int IntKind.i64 0, LV.str [], LV.str [], LV.str [], LV.int IntKind.i64 0, LV.nili, LV.nils, LV.str []] []))
                                                fun v31 =>
                                                LCalls Tryz.prog 10 [LV.nilp, v31] st28 fun v32 st33 =>
                                                  bd (lextract v32 0) fun _v34 =>
                                                    bd (lextract v32 1) fun _v35 =>
                                                      bd (lextract v32 2) fun v36 =>
                                                        LCalls Tryz.prog 11 [LV.nilp, a0] st33 fun v37 st38 =>
                                                          bd (lextract v37 0) fun _v39 =>
                                                            bd (lextract v37 1) fun v40 =>
                                                              bd (bInt BinOp.eql v18 (LV.int IntKind.i64 11)) fun v41 =>
                                                                bsel v41
                                                                  (bd (bInt BinOp.eql v22 (LV.int IntKind.i64 11)) fun v42 =>
                                                                    bsel v42
                                                                      (bd (bInt BinOp.eql v26 (LV.int IntKind.i64 11)) fun v43 =>
                                                                        bsel v43
                                                                          (bd (bInt BinOp.eql v30 (LV.int IntKind.i64 11)) fun v44 =>
                                                                            bsel v44
                                                                              (bd (bInt BinOp.eql v36 (LV.int IntKind.i64 11)) fun v45 =>
                                                                                bsel v45
                                                                                  (bd (lun UnOp.not v40) fun v46 =>
                                                                                    bsel v46
                                                                                      (LCalls Tryz.prog 12 [LV.nilp, a2] st38 fun v47 st48 =>
                                                                                        bd (lenSl v47) fun v49 =>
                                                                                          bd (bInt BinOp.eql v49 (LV.int IntKind.i64 0)) fun v50 =>
                                                                                            bsel v50
                                                                                              (LCalls Tryz.prog 13 [LV.nilp] st48 fun v51 st52 =>
                                                                                                bd (eqB BinOp.eql (eqPtr v51 LV.nilp)) fun v53 =>
                                                                                                  bsel v53
                                                                                                    (LCalls Tryz.prog 14 [LV.nilp, a0] st52 fun v54 st55 =>
                                                                                                      bd (bInt BinOp.eql v54 (LV.int IntKind.i64 0)) fun v56 =>
                                                                                                        bsel v56
                                                                                                          (LCalls Tryz.prog 15 [LV.nilp, a0] st55 fun v57 st58 =>
                                                                                                            bd (lun UnOp.not v57) fun v59 =>
                                                                                                              bsel v59
                                                                                                                (LCalls Tryz.prog 16 [LV.nilp] st58 fun v60 st61 =>
                                                                                                                  bd (bInt BinOp.eql v60 (LV.int IntKind.i64 0)) fun v62 =>
                                                                                                                    bsel v62
                                                                                                                      (LCalls Tryz.prog 17 [LV.nilp] st61 fun v63 st64 =>
                                                                                                                        bd (lenSl v63) fun v65 =>
                                                                                                                          bd (bInt BinOp.eql v65 (LV.int IntKind.i64 0)) fun v66 =>
                                                                                                                            R v66 st64)
                                                                                                                      (R (LV.bool false) st61))
                                                                                                                (R (LV.bool false) st58))
                                                                                                          (R (LV.bool false) st55))
                                                                                                    (R (LV.bool false) st52))
                                                                                              (R (LV.bool false) st48))
                                                                                      (R (LV.bool false) st38))
                                                                                  (R (LV.bool false) st38))
                                                                              (R (LV.bool false) st38))
                                                                          (R (LV.bool false) st38))
                                                                      (R (LV.bool false) st38))
                                                                  (R (LV.bool false) st38))))
theorem w3_eq (a0 a1 a2 : LV) (R : LV → LState → Prop) (st : LState) : levT Tryz.prog [.tmp 6] R [] [] 3000 [.code (bodyOf Tryz.f3)] ([a0, a1, a2] ++ List.replicate (Tryz.f3.ntmps - 3) lundef) st = w3 a0 a1 a2 R st := by kernel_rfl
theorem c3 (a0 a1 a2 : LV) {R : LV → LState → Prop} {st : LState} (h : w3 a0 a1 a2 R st) : LCalls Tryz.prog 3 [a0, a1, a2] st R :=
  LCalls.of cm_mixed Tryz.func3 (show Tryz.f3.body = some (bodyOf Tryz.f3) by kernel_rfl) (by kernel_rfl) (show Tryz.f3.results.toList = [.tmp 6] by kernel_rfl) (levT_sound cm_mixed 3000 (Eq.mpr (w3_eq a0 a1 a2 R st) h))

end Go.Proofs.YtgpllhhgfbkakaaGreatDoor
