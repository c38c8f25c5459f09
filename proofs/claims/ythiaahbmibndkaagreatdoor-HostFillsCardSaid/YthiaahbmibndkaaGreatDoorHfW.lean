/- Walks over the clean machine: what each function does, printed by a program of this work (cmp.py) out of the loaded functions; each is checked by the kernel. -/
import Derived.Test.YthiaahbmibndkaaGreatDoorProg
import Derived.Test.YthiaahbmibndkaaGreatDoorCp24
namespace Go.Proofs.YthiaahbmibndkaaGreatDoor
open Go Go.CP
set_option maxRecDepth 100000
theorem cm_mixed : Tryz.prog.follows .mixedOrders = true := by kernel_rfl
/-- the place 1 of f3 -/
def P3_1 (x0 x1 x5 x7 x8 x11 : LV) (R : LV → LState → Prop) (st : LState) : Prop := LT Tryz.prog [.tmp 6] (pointN Tryz.f3 1) R [x0, x1, .junk, .junk, .junk, x5, .junk, x7, x8, .junk, .junk, x11, .junk, .junk, .junk, .junk, .junk, .junk, .junk, .junk, .junk, .junk, .junk, .junk, .junk, .junk, .junk, .junk, .junk, .junk, .junk, .junk, .junk, .junk, .junk, .junk, .junk, .junk, .junk, .junk, .junk, .junk, .junk, .junk, .junk, .junk, .junk, .junk, .junk, .junk, .junk, .junk, .junk, .junk, .junk, .junk, .junk, .junk, .junk, .junk, .junk, .junk, .junk, .junk, .junk, .junk, .junk, .junk, .junk, .junk, .junk, .junk, .junk, .junk, .junk, .junk, .junk, .junk, .junk, .junk, .junk, .junk, .junk, .junk, .junk, .junk, .junk, .junk, .junk, .junk, .junk, .junk, .junk, .junk, .junk, .junk, .junk, .junk, .junk, .junk, .junk, .junk, .junk, .junk, .junk, .junk, .junk, .junk, .junk, .junk, .junk, .junk, .junk, .junk, .junk, .junk, .junk, .junk, .junk, .junk, .junk, .junk, .junk, .junk, .junk, .junk, .junk, .junk, .junk, .junk, .junk, .junk, .junk, .junk, .junk, .junk, .junk, .junk, .junk, .junk] st
/-- the place 4 of f3 -/
def P3_4 (x0 x1 x5 x7 x8 x11 : LV) (R : LV → LState → Prop) (st : LState) : Prop := LT Tryz.prog [.tmp 6] (pointN Tryz.f3 4) R [x0, x1, .junk, .junk, .junk, x5, .junk, x7, x8, .junk, .junk, x11, .junk, .junk, .junk, .junk, .junk, .junk, .junk, .junk, .junk, .junk, .junk, .junk, .junk, .junk, .junk, .junk, .junk, .junk, .junk, .junk, .junk, .junk, .junk, .junk, .junk, .junk, .junk, .junk, .junk, .junk, .junk, .junk, .junk, .junk, .junk, .junk, .junk, .junk, .junk, .junk, .junk, .junk, .junk, .junk, .junk, .junk, .junk, .junk, .junk, .junk, .junk, .junk, .junk, .junk, .junk, .junk, .junk, .junk, .junk, .junk, .junk, .junk, .junk, .junk, .junk, .junk, .junk, .junk, .junk, .junk, .junk, .junk, .junk, .junk, .junk, .junk, .junk, .junk, .junk, .junk, .junk, .junk, .junk, .junk, .junk, .junk, .junk, .junk, .junk, .junk, .junk, .junk, .junk, .junk, .junk, .junk, .junk, .junk, .junk, .junk, .junk, .junk, .junk, .junk, .junk, .junk, .junk, .junk, .junk, .junk, .junk, .junk, .junk, .junk, .junk, .junk, .junk, .junk, .junk, .junk, .junk, .junk, .junk, .junk, .junk, .junk, .junk, .junk] st
/-- the place 1 of f26 -/
def P26_1 (x0 : LV) (R : LV → LState → Prop) (st : LState) : Prop := LT Tryz.prog [] (pointN Tryz.f26 1) R [x0, .junk, .junk, .junk, .junk, .junk, .junk, .junk, .junk, .junk, .junk, .junk, .junk, .junk, .junk, .junk, .junk, .junk, .junk, .junk, .junk, .junk, .junk, .junk, .junk, .junk, .junk, .junk, .junk, .junk, .junk, .junk, .junk, .junk, .junk, .junk, .junk, .junk, .junk, .junk, .junk, .junk] st

/-- (*flange.host.Host).Names -/
def w8 (a0 : LV) (R : LV → LState → Prop) (st : LState) : Prop :=
  bd (eqB BinOp.eql (eqPtr true a0 LV.nilp)) fun v0 =>
    bsel v0 (R LV.nils st)
      (bd (lnilCheck a0) fun v1 => bd (fAddr 0 v1) fun v2 => bd (ld1 st v2) fun v3 => LCalls Tryz.prog 22 [v3] st fun v4 st5 => LCalls Tryz.prog 21 [v4] st5 fun v6 st7 => R v6 st7)
theorem w8_eq (a0 : LV) (R : LV → LState → Prop) (st : LState) : levT Tryz.prog [.tmp 2] R [] [] 3000 [.code (bodyOf Tryz.f8)] ([a0] ++ List.replicate (Tryz.f8.ntmps - 1) lundef) st = w8 a0 R st := by kernel_rfl
theorem c8 (a0 : LV) {R : LV → LState → Prop} {st : LState} (h : w8 a0 R st) : LCalls Tryz.prog 8 [a0] st R :=
  LCalls.of cm_mixed Tryz.func8 (show Tryz.f8.body = some (bodyOf Tryz.f8) by kernel_rfl) (by kernel_rfl) (show Tryz.f8.results.toList = [.tmp 2] by kernel_rfl) (levT_sound cm_mixed 3000 (Eq.mpr (w8_eq a0 R st) h))

/-- (*flange.host.Host).Do -/
def w9 (a0 a1 : LV) (R : LV → LState → Prop) (st : LState) : Prop :=
  bd2 (lbox st a1) fun v0 st1 =>
    bd (fAddr 1 v0) fun v2 =>
      bd (fAddr 0 v2) fun v3 =>
        bd (ld1 st1 v3) fun v4 =>
          LCalls Tryz.prog 18 [a0, v4] st1 fun v5 st6 =>
            bd (lextract v5 0) fun v7 =>
              bd (lextract v5 1) fun v8 =>
                bd (bInt BinOp.neq v8 (LV.int IntKind.i64 0)) fun v9 =>
                  bsel v9 (R (LV.tup [LV.int IntKind.i64 0, LV.nils, v8]) st6)
                    (bd (lnilCheck v7) fun v10 =>
                      bd (fAddr 0 v10) fun v11 =>
                        bd (ld1 st6 v11) fun v12 =>
                          bd (lnilCheck v12) fun v13 =>
                            bd (fAddr 0 v13) fun v14 =>
                              bd (ld1 st6 v14) fun v15 =>
                                LCalls Tryz.prog 23 [v15] st6 fun v16 st17 =>
                                  bd (bInt BinOp.eql v16 (LV.int IntKind.i64 5)) fun v18 =>
                                    bsel v18 (R (LV.tup [LV.int IntKind.i64 0, LV.nils, LV.int IntKind.i64 14]) st17)
                                      (bd (fAddr 6 v0) fun v19 =>
                                        bd (ld1 st17 v19) fun v20 =>
                                          LCalls Tryz.prog 24 [v20] st17 fun v21 st22 =>
                                            bd (fAddr 6 v0) fun v23 =>
                                              bd2 (lmk (stV st22 1 v23 v21)) fun _v24 st25 =>
                                                bd (lnilCheck v7) fun v26 =>
                                                  bd (fAddr 0 v26) fun v27 =>
                                                    bd (ld1 st25 v27) fun v28 =>
                                                      bd (lnilCheck v28) fun v29 =>
                                                        bd (fAddr 3 v29) fun v30 =>
                                                          bd (ld1 st25 v30) fun v31 =>
                                                            bd (ldA st25 v0 8) fun v32 =>
                                                              bd (lnilCheck a0) fun v33 =>
                                                                bd (fAddr 2 v33) fun v34 =>
                                                                  bd (ld1 st25 v34) fun v35 =>
                                                                    bd
                                                                      (mkAgg
                                                                        (lfill (placesL [(0, 8), (8, 1)])
                                                                          [LV.int IntKind.i64 0, LV.str [], LV.str [], LV.str [], LV.int IntKind.i64 0, LV.nili, LV.nils, LV.str [],
                                                                            LV.int IntKind.i64 0]
                                                                          [(0, v32), (1, v35)]))
                                                                      fun v36 =>
                                                                      LCalls Tryz.prog 25 [v31, v36] st25 fun v37 st38 =>
                                                                        bd (lextract v37 0) fun v39 =>
                                                                          bd (lextract v37 1) fun v40 =>
                                                                            bd (bInt BinOp.neq v40 (LV.int IntKind.i64 0)) fun v41 =>
                                                                              bsel v41 (R (LV.tup [LV.int IntKind.i64 0, LV.nils, v40]) st38)
                                                                                (LCalls Tryz.prog 26 [v7] st38 fun _v42 st43 =>
                                                                                  bd (lnilCheck v7) fun v44 =>
                                                                                    bd (fAddr 2 v44) fun v45 =>
                                                                                      bd (ld1 st43 v45) fun v46 => R (LV.tup [v39, v46, LV.int IntKind.i64 0]) st43)))
theorem w9_eq (a0 a1 : LV) (R : LV → LState → Prop) (st : LState) : levT Tryz.prog [.tmp 4, .tmp 5, .tmp 6] R [] [] 3000 [.code (bodyOf Tryz.f9)] ([a0, a1] ++ List.replicate (Tryz.f9.ntmps - 2) lundef) st = w9 a0 a1 R st := by kernel_rfl
theorem c9 (a0 a1 : LV) {R : LV → LState → Prop} {st : LState} (h : w9 a0 a1 R st) : LCalls Tryz.prog 9 [a0, a1] st R :=
  LCalls.of cm_mixed Tryz.func9 (show Tryz.f9.body = some (bodyOf Tryz.f9) by kernel_rfl) (by kernel_rfl) (show Tryz.f9.results.toList = [.tmp 4, .tmp 5, .tmp 6] by kernel_rfl) (levT_sound cm_mixed 3000 (Eq.mpr (w9_eq a0 a1 R st) h))

/-- flange.flangelaw18.Addr -/
def w10 (a0 : LV) (R : LV → LState → Prop) (st : LState) : Prop :=
  bd2 (lbox st a0) fun v0 st1 =>
    nw st1 [LV.str [], LV.str [], LV.str [], LV.int IntKind.i64 0] fun v2 st3 =>
      bd (fAddr 0 v0) fun v4 =>
        bd (ixArr 3 1 v4 (LV.int IntKind.i64 0)) fun v5 =>
          bd (ld1 st3 v5) fun v6 =>
            bd (fAddr 0 v0) fun v7 =>
              bd (ixArr 3 1 v7 (LV.int IntKind.i64 1)) fun v8 =>
                bd (ld1 st3 v8) fun v9 =>
                  bd (fAddr 0 v0) fun v10 =>
                    bd (ixArr 3 1 v10 (LV.int IntKind.i64 2)) fun v11 =>
                      bd (ld1 st3 v11) fun v12 =>
                        bd (fAddr 3 v0) fun v13 =>
                          bd (ld1 st3 v13) fun v14 =>
                            bd
                              (mkAgg
                                (lfill (placesL [(0, 1), (1, 1), (2, 1), (3, 1)]) [LV.str [], LV.str [], LV.str [], LV.int IntKind.i64 0] [(0, v6), (1, v9), (2, v12), (3, v14)]))
                              fun v15 => bd2 (lmk (stV st3 4 v2 v15)) fun _v16 st17 => bd (ldA st17 v2 4) fun v18 => R v18 st17
theorem w10_eq (a0 : LV) (R : LV → LState → Prop) (st : LState) : levT Tryz.prog [.cell 2 43] R [] [] 3000 [.code (bodyOf Tryz.f10)] ([a0] ++ List.replicate (Tryz.f10.ntmps - 1) lundef) st = w10 a0 R st := by kernel_rfl
theorem c10 (a0 : LV) {R : LV → LState → Prop} {st : LState} (h : w10 a0 R st) : LCalls Tryz.prog 10 [a0] st R :=
  LCalls.of cm_mixed Tryz.func10 (show Tryz.f10.body = some (bodyOf Tryz.f10) by kernel_rfl) (by kernel_rfl) (show Tryz.f10.results.toList = [.cell 2 43] by kernel_rfl) (levT_sound cm_mixed 3000 (Eq.mpr (w10_eq a0 R st) h))

/-- (*flange.host.Host).Waiting -/
def w11 (a0 a1 : LV) (R : LV → LState → Prop) (st : LState) : Prop :=
  LCalls Tryz.prog 18 [a0, a1] st fun v0 st1 =>
    bd (lextract v0 0) fun v2 =>
      bd (lextract v0 1) fun v3 =>
        bd (bInt BinOp.neq v3 (LV.int IntKind.i64 0)) fun v4 =>
          bsel v4 (R (LV.int IntKind.i64 0) st1)
            (bd (lnilCheck v2) fun v5 =>
              bd (fAddr 0 v5) fun v6 =>
                bd (ld1 st1 v6) fun v7 => bd (lnilCheck v7) fun v8 => bd (fAddr 3 v8) fun v9 => bd (ld1 st1 v9) fun v10 => LCalls Tryz.prog 27 [v10] st1 fun v11 st12 => R v11 st12)
theorem w11_eq (a0 a1 : LV) (R : LV → LState → Prop) (st : LState) : levT Tryz.prog [.tmp 4] R [] [] 3000 [.code (bodyOf Tryz.f11)] ([a0, a1] ++ List.replicate (Tryz.f11.ntmps - 2) lundef) st = w11 a0 a1 R st := by kernel_rfl
theorem c11 (a0 a1 : LV) {R : LV → LState → Prop} {st : LState} (h : w11 a0 a1 R st) : LCalls Tryz.prog 11 [a0, a1] st R :=
  LCalls.of cm_mixed Tryz.func11 (show Tryz.f11.body = some (bodyOf Tryz.f11) by kernel_rfl) (by kernel_rfl) (show Tryz.f11.results.toList = [.tmp 4] by kernel_rfl) (levT_sound cm_mixed 3000 (Eq.mpr (w11_eq a0 a1 R st) h))

/-- (*flange.host.Host).Busy -/
def w12 (a0 a1 : LV) (R : LV → LState → Prop) (st : LState) : Prop :=
  LCalls Tryz.prog 18 [a0, a1] st fun v0 st1 =>
    bd (lextract v0 0) fun v2 =>
      bd (lextract v0 1) fun v3 =>
        bd (bInt BinOp.eql v3 (LV.int IntKind.i64 0)) fun v4 =>
          bsel v4
            (bd (lnilCheck v2) fun v5 =>
              bd (fAddr 0 v5) fun v6 =>
                bd (ld1 st1 v6) fun v7 =>
                  bd (lnilCheck v7) fun v8 => bd (fAddr 4 v8) fun v9 => bd (ld1 st1 v9) fun v10 => bd (eqB BinOp.neq (eqPtr true v10 LV.nilp)) fun v11 => R v11 st1)
            (R (LV.bool false) st1)
theorem w12_eq (a0 a1 : LV) (R : LV → LState → Prop) (st : LState) : levT Tryz.prog [.tmp 4] R [] [] 3000 [.code (bodyOf Tryz.f12)] ([a0, a1] ++ List.replicate (Tryz.f12.ntmps - 2) lundef) st = w12 a0 a1 R st := by kernel_rfl
theorem c12 (a0 a1 : LV) {R : LV → LState → Prop} {st : LState} (h : w12 a0 a1 R st) : LCalls Tryz.prog 12 [a0, a1] st R :=
  LCalls.of cm_mixed Tryz.func12 (show Tryz.f12.body = some (bodyOf Tryz.f12) by kernel_rfl) (by kernel_rfl) (show Tryz.f12.results.toList = [.tmp 4] by kernel_rfl) (levT_sound cm_mixed 3000 (Eq.mpr (w12_eq a0 a1 R st) h))

/-- (*flange.host.Host).of -/
def w18 (a0 a1 : LV) (R : LV → LState → Prop) (st : LState) : Prop :=
  bd (eqB BinOp.eql (eqPtr true a0 LV.nilp)) fun v0 =>
    bsel v0 (R (LV.tup [LV.nilp, LV.int IntKind.i64 11]) st)
      (bd (lnilCheck a0) fun v1 =>
        bd (fAddr 0 v1) fun v2 =>
          bd (ld1 st v2) fun v3 =>
            bd (mget st true (some LV.nilp) v3 a1 true) fun v4 =>
              bd (lextract v4 0) fun v5 =>
                bd (lextract v4 1) fun v6 =>
                  bd (lun UnOp.not v6) fun v7 =>
                    bsel v7 (R (LV.tup [LV.nilp, LV.int IntKind.i64 7]) st)
                      (bd (mkAgg (lfill (placesL [(0, 1), (1, 1), (2, 1)]) [LV.nilp, LV.nilp, LV.nils] [(0, v5), (1, a0)])) fun v8 =>
                        bd2 (lbox st v8) fun v9 st10 => R (LV.tup [v9, LV.int IntKind.i64 0]) st10))
theorem w18_eq (a0 a1 : LV) (R : LV → LState → Prop) (st : LState) : levT Tryz.prog [.tmp 4, .tmp 5] R [] [] 3000 [.code (bodyOf Tryz.f18)] ([a0, a1] ++ List.replicate (Tryz.f18.ntmps - 2) lundef) st = w18 a0 a1 R st := by kernel_rfl
theorem c18 (a0 a1 : LV) {R : LV → LState → Prop} {st : LState} (h : w18 a0 a1 R st) : LCalls Tryz.prog 18 [a0, a1] st R :=
  LCalls.of cm_mixed Tryz.func18 (show Tryz.f18.body = some (bodyOf Tryz.f18) by kernel_rfl) (by kernel_rfl) (show Tryz.f18.results.toList = [.tmp 4, .tmp 5] by kernel_rfl) (levT_sound cm_mixed 3000 (Eq.mpr (w18_eq a0 a1 R st) h))

/-- (*flange.supervise.Keeper).State -/
def w23 (a0 : LV) (R : LV → LState → Prop) (st : LState) : Prop :=
  bd (eqB BinOp.eql (eqPtr true a0 LV.nilp)) fun v0 => bsel v0 (R (LV.int IntKind.i64 0) st) (bd (lnilCheck a0) fun v1 => bd (fAddr 3 v1) fun v2 => bd (ld1 st v2) fun v3 => R v3 st)
theorem w23_eq (a0 : LV) (R : LV → LState → Prop) (st : LState) : levT Tryz.prog [.tmp 2] R [] [] 3000 [.code (bodyOf Tryz.f23)] ([a0] ++ List.replicate (Tryz.f23.ntmps - 1) lundef) st = w23 a0 R st := by kernel_rfl
theorem c23 (a0 : LV) {R : LV → LState → Prop} {st : LState} (h : w23 a0 R st) : LCalls Tryz.prog 23 [a0] st R :=
  LCalls.of cm_mixed Tryz.func23 (show Tryz.f23.body = some (bodyOf Tryz.f23) by kernel_rfl) (by kernel_rfl) (show Tryz.f23.results.toList = [.tmp 2] by kernel_rfl) (levT_sound cm_mixed 3000 (Eq.mpr (w23_eq a0 R st) h))

/-- slices.Clone[[]flange.address.Address,flange.address.Address] -/
def w24 (a0 : LV) (R : LV → LState → Prop) (st : LState) : Prop :=
  bd (eqB BinOp.eql (eqSl a0 LV.nils)) fun v0 =>
    bsel v0 (R LV.nils st)
      (bd2 (slNew st 0 (lfill (fun i => some (i * 4, 4)) (List.replicate 0 [LV.str [], LV.str [], LV.str [], LV.int IntKind.i64 0]).flatten [])) fun v1 st2 =>
        bd2 (lappend st2 4 56 Md.rw v1 a0) fun v3 st4 => R v3 st4)
theorem w24_eq (a0 : LV) (R : LV → LState → Prop) (st : LState) : levT Tryz.prog [.tmp 2] R [] [] 3000 [.code (bodyOf Tryz.f24)] ([a0] ++ List.replicate (Tryz.f24.ntmps - 1) lundef) st = w24 a0 R st := by kernel_rfl
theorem c24 (a0 : LV) {R : LV → LState → Prop} {st : LState} (h : w24 a0 R st) : LCalls Tryz.prog 24 [a0] st R :=
  LCalls.of cm_mixed Tryz.func24 (show Tryz.f24.body = some (bodyOf Tryz.f24) by kernel_rfl) (by kernel_rfl) (show Tryz.f24.results.toList = [.tmp 2] by kernel_rfl) (levT_sound cm_mixed 3000 (Eq.mpr (w24_eq a0 R st) h))

/-- (*flange.queue.Queue[flange.host.command]).Put -/
def w25 (a0 a1 : LV) (R : LV → LState → Prop) (st : LState) : Prop :=
  bd2 (lbox st a1) fun v0 st1 =>
    bd (eqB BinOp.eql (eqPtr true a0 LV.nilp)) fun v2 =>
      bsel v2 (R (LV.tup [LV.int IntKind.i64 0, LV.int IntKind.i64 11]) st1)
        (bd (lnilCheck a0) fun v3 =>
          bd (fAddr 0 v3) fun v4 =>
            bd (ld1 st1 v4) fun v5 =>
              bd (lenSl v5) fun v6 =>
                bd (lnilCheck a0) fun v7 =>
                  bd (fAddr 1 v7) fun v8 =>
                    bd (ld1 st1 v8) fun v9 =>
                      bd (bInt BinOp.geq v6 v9) fun v10 =>
                        bsel v10 (R (LV.tup [LV.int IntKind.i64 0, LV.int IntKind.i64 10]) st1)
                          (bd (lnilCheck a0) fun v11 =>
                            bd (fAddr 2 v11) fun v12 =>
                              bd (ld1 st1 v12) fun v13 =>
                                bd (bInt BinOp.add v13 (LV.int IntKind.i64 1)) fun v14 =>
                                  bd (lnilCheck a0) fun v15 =>
                                    bd (fAddr 2 v15) fun v16 =>
                                      bd2 (lmk (stV st1 1 v16 v14)) fun _v17 st18 =>
                                        bd (lnilCheck a0) fun v19 =>
                                          bd (fAddr 0 v19) fun v20 =>
                                            bd (ld1 st18 v20) fun v21 =>
                                              bd (ldA st18 v0 9) fun v22 =>
                                                bd (lnilCheck a0) fun v23 =>
                                                  bd (fAddr 2 v23) fun v24 =>
                                                    bd (ld1 st18 v24) fun v25 =>
                                                      bd
                                                        (mkAgg
                                                          (lfill (placesL [(0, 9), (9, 1)])
                                                            [LV.int IntKind.i64 0, LV.str [], LV.str [], LV.str [], LV.int IntKind.i64 0, LV.nili, LV.nils, LV.str [],
                                                              LV.int IntKind.i64 0, LV.int IntKind.i64 0]
                                                            [(0, v22), (1, v25)]))
                                                        fun v26 =>
                                                        bd2
                                                          (slNew st18 1
                                                            (lfill (fun i => some (i * 10, 10))
                                                              (List.replicate 1
                                                                  [LV.int IntKind.i64 0, LV.str [], LV.str [], LV.str [], LV.int IntKind.i64 0, LV.nili, LV.nils, LV.str [],
                                                                    LV.int IntKind.i64 0, LV.int IntKind.i64 0]).flatten
                                                              [(0, v26)]))
                                                          fun v27 st28 =>
                                                          ld1 st28 v20 = some v21 ∧
                                                            bd2 (lappend st28 10 136 Md.rw v21 v27) fun v29 st30 =>
                                                              bd (lnilCheck a0) fun v31 =>
                                                                bd (fAddr 0 v31) fun v32 =>
                                                                  bd2 (lmk (stV st30 1 v32 v29)) fun _v33 st34 =>
                                                                    bd (lnilCheck a0) fun v35 =>
                                                                      bd (fAddr 2 v35) fun v36 => bd (ld1 st34 v36) fun v37 => R (LV.tup [v37, LV.int IntKind.i64 0]) st34))
theorem w25_eq (a0 a1 : LV) (R : LV → LState → Prop) (st : LState) : levT Tryz.prog [.tmp 4, .tmp 5] R [] [] 3000 [.code (bodyOf Tryz.f25)] ([a0, a1] ++ List.replicate (Tryz.f25.ntmps - 2) lundef) st = w25 a0 a1 R st := by kernel_rfl
theorem c25 (a0 a1 : LV) {R : LV → LState → Prop} {st : LState} (h : w25 a0 a1 R st) : LCalls Tryz.prog 25 [a0, a1] st R :=
  LCalls.of cm_mixed Tryz.func25 (show Tryz.f25.body = some (bodyOf Tryz.f25) by kernel_rfl) (by kernel_rfl) (show Tryz.f25.results.toList = [.tmp 4, .tmp 5] by kernel_rfl) (levT_sound cm_mixed 3000 (Eq.mpr (w25_eq a0 a1 R st) h))

/-- (*flange.host.run).pump -/
def w26 (a0 : LV) (R : LV → LState → Prop) (st : LState) : Prop :=
  P26_1 a0 R
    st
theorem w26_eq (a0 : LV) (R : LV → LState → Prop) (st : LState) : levT Tryz.prog [] R [1, 2, 3, 4, 5, 6, 7, 8, 9, 10, 11, 12, 13, 14, 15, 16, 17, 18, 19, 20, 21, 22, 23, 24, 25, 26, 27, 28, 29, 30, 31, 32, 33, 34, 35, 36, 37, 38, 39, 40, 41] [] 3000 [.code (bodyOf Tryz.f26)] ([a0] ++ List.replicate (Tryz.f26.ntmps - 1) lundef) st = w26 a0 R st := by kernel_rfl
theorem c26 (a0 : LV) {R : LV → LState → Prop} {st : LState} (h : w26 a0 R st) : LCalls Tryz.prog 26 [a0] st R :=
  LCalls.of cm_mixed Tryz.func26 (show Tryz.f26.body = some (bodyOf Tryz.f26) by kernel_rfl) (by kernel_rfl) (show Tryz.f26.results.toList = [] by kernel_rfl) (levT_sound cm_mixed 3000 (Eq.mpr (w26_eq a0 R st) h))

/-- (*flange.host.run).pump, from point 1 on -/
def w26_1 (x0 : LV) (R : LV → LState → Prop) (st : LState) : Prop :=
  bd (lnilCheck x0) fun v0 =>
    bd (fAddr 0 v0) fun v1 =>
      bd (ld1 st v1) fun v2 =>
        bd (lnilCheck v2) fun v3 =>
          bd (fAddr 0 v3) fun v4 =>
            bd (ld1 st v4) fun v5 =>
              LCalls Tryz.prog 23 [v5] st fun v6 st7 =>
                bd (bInt BinOp.eql v6 (LV.int IntKind.i64 3)) fun v8 =>
                  bsel v8
                    (bd (lnilCheck x0) fun v9 =>
                      bd (fAddr 0 v9) fun v10 =>
                        bd (ld1 st7 v10) fun v11 =>
                          bd (lnilCheck v11) fun v12 =>
                            bd (fAddr 4 v12) fun v13 =>
                              bd (ld1 st7 v13) fun v14 =>
                                bd (eqB BinOp.eql (eqPtr true v14 LV.nilp)) fun v15 =>
                                  bsel v15
                                    (bd (lnilCheck x0) fun v16 =>
                                      bd (fAddr 0 v16) fun v17 =>
                                        bd (ld1 st7 v17) fun v18 =>
                                          bd (lnilCheck v18) fun v19 =>
                                            bd (fAddr 3 v19) fun v20 =>
                                              bd (ld1 st7 v20) fun v21 =>
                                                LCalls Tryz.prog 38 [v21] st7 fun v22 st23 =>
                                                  bd (lextract v22 0) fun v24 =>
                                                    bd (lextract v22 1) fun v25 =>
                                                      bd (lextract v22 2) fun v26 =>
                                                        nw st23
                                                          [LV.int IntKind.i64 0, LV.str [], LV.str [], LV.str [], LV.int IntKind.i64 0, LV.nili, LV.nils, LV.str [],
                                                            LV.int IntKind.i64 0]
                                                          fun v27 st28 =>
                                                          bd2 (lmk (stV st28 9 v27 v24)) fun _v29 st30 =>
                                                            bd (lun UnOp.not v26) fun v31 =>
                                                              bsel v31 (R (LV.tup []) st30)
                                                                (bd (ldA st30 v27 9) fun v32 =>
                                                                  LCalls Tryz.prog 39 [x0, v32, v25] st30 fun _v33 st34 =>
                                                                    P26_1 x0 R
                                                                      st34))
                                    (R (LV.tup []) st7))
                    (R (LV.tup []) st7)
theorem w26_1_eq (x0 : LV) (R : LV → LState → Prop) (st : LState) : levT Tryz.prog [] R [1, 2, 3, 4, 5, 6, 7, 8, 9, 10, 11, 12, 13, 14, 15, 16, 17, 18, 19, 20, 21, 22, 23, 24, 25, 26, 27, 28, 29, 30, 31, 32, 33, 34, 35, 36, 37, 38, 39, 40, 41] [] 3000 (stepIn (pointN Tryz.f26 1)) [x0, .junk, .junk, .junk, .junk, .junk, .junk, .junk, .junk, .junk, .junk, .junk, .junk, .junk, .junk, .junk, .junk, .junk, .junk, .junk, .junk, .junk, .junk, .junk, .junk, .junk, .junk, .junk, .junk, .junk, .junk, .junk, .junk, .junk, .junk, .junk, .junk, .junk, .junk, .junk, .junk, .junk] st = w26_1 x0 R st := by kernel_rfl
theorem p26_1 (x0 : LV) {R : LV → LState → Prop} {st : LState} (h : w26_1 x0 R st) : P26_1 x0 R st :=
  LT.at cm_mixed 3000 (Eq.mpr (w26_1_eq x0 R st) h)

/-- (*flange.queue.Queue[flange.host.command]).Len -/
def w27 (a0 : LV) (R : LV → LState → Prop) (st : LState) : Prop :=
  bd (eqB BinOp.eql (eqPtr true a0 LV.nilp)) fun v0 =>
    bsel v0 (R (LV.int IntKind.i64 0) st) (bd (lnilCheck a0) fun v1 => bd (fAddr 0 v1) fun v2 => bd (ld1 st v2) fun v3 => bd (lenSl v3) fun v4 => R v4 st)
theorem w27_eq (a0 : LV) (R : LV → LState → Prop) (st : LState) : levT Tryz.prog [.tmp 2] R [] [] 3000 [.code (bodyOf Tryz.f27)] ([a0] ++ List.replicate (Tryz.f27.ntmps - 1) lundef) st = w27 a0 R st := by kernel_rfl
theorem c27 (a0 : LV) {R : LV → LState → Prop} {st : LState} (h : w27 a0 R st) : LCalls Tryz.prog 27 [a0] st R :=
  LCalls.of cm_mixed Tryz.func27 (show Tryz.f27.body = some (bodyOf Tryz.f27) by kernel_rfl) (by kernel_rfl) (show Tryz.f27.results.toList = [.tmp 2] by kernel_rfl) (levT_sound cm_mixed 3000 (Eq.mpr (w27_eq a0 R st) h))

/-- flange.flangelaw27.HostFills -/
def w3 (a0 a1 a2 : LV) (R : LV → LState → Prop) (st : LState) : Prop :=
  bd2 (lbox st a2) fun v0 st1 =>
    bd (fAddr 4 v0) fun v2 =>
      bd (ld1 st1 v2) fun v3 =>
        bd (lenStr v3) fun v4 =>
          bd (bInt BinOp.gtr v4 (LV.int IntKind.i64 100)) fun v5 =>
            bsel v5 (LCalls Tryz.prog 4 [] st1 fun v6 st7 => R v6 st7)
              (bd (fAddr 5 v0) fun v8 =>
                bd (ld1 st1 v8) fun v9 =>
                  bd (lenSl v9) fun v10 =>
                    bd (bInt BinOp.gtr v10 (LV.int IntKind.i64 0)) fun v11 =>
                      bsel v11 (LCalls Tryz.prog 4 [] st1 fun v12 st13 => R v12 st13)
                        (LCalls Tryz.prog 4 [] st1 fun v14 st15 =>
                          bd (lun UnOp.not v14) fun v16 =>
                            bsel v16 (LCalls Tryz.prog 4 [] st15 fun v17 st18 => R v17 st18)
                              (LCalls Tryz.prog 5 [] st15 fun v19 st20 =>
                                P3_1 a0 a1 v0 v19 (LV.int IntKind.i64 0) (LV.tup []) R
                                  st20)))
theorem w3_eq (a0 a1 a2 : LV) (R : LV → LState → Prop) (st : LState) : levT Tryz.prog [.tmp 6] R [2, 3, 4, 6, 9, 10, 12, 13, 14, 15, 16, 17, 18, 19, 20, 21, 22, 23, 24, 25, 26, 27, 28, 29, 30, 31, 32, 33, 34, 35, 36, 37, 38, 39, 40, 41, 42, 43, 44, 45, 46, 47, 48, 49, 50, 51, 52, 53, 54, 55, 56, 57, 58, 59, 60, 61, 62, 63, 64, 65, 66, 67, 68, 69, 70, 71, 72, 73, 74, 75, 76, 77, 78, 79, 80, 81, 82, 83, 84, 85, 86, 87, 88, 89, 90, 91, 92, 93, 94, 95, 96, 97, 98, 99, 100, 101, 102, 103, 104, 105, 106, 107, 108, 109, 110, 111, 112, 113, 114, 115, 116, 117, 118, 119, 120, 121, 122, 123, 124, 125, 126, 127, 128, 129, 130, 131, 132, 133, 134, 135, 136, 137, 138, 139] [] 3000 [.code (bodyOf Tryz.f3)] ([a0, a1, a2] ++ List.replicate (Tryz.f3.ntmps - 3) lundef) st = w3 a0 a1 a2 R st := by kernel_rfl
theorem c3 (a0 a1 a2 : LV) {R : LV → LState → Prop} {st : LState} (h : w3 a0 a1 a2 R st) : LCalls Tryz.prog 3 [a0, a1, a2] st R :=
  LCalls.of cm_mixed Tryz.func3 (show Tryz.f3.body = some (bodyOf Tryz.f3) by kernel_rfl) (by kernel_rfl) (show Tryz.f3.results.toList = [.tmp 6] by kernel_rfl) (levT_sound cm_mixed 3000 (Eq.mpr (w3_eq a0 a1 a2 R st) h))

/-- flange.flangelaw27.HostFills, from point 1 on -/
def w3_1 (x0 x1 x5 x7 x8 x11 : LV) (R : LV → LState → Prop) (st : LState) : Prop :=
  bd (bInt BinOp.rem x0 (LV.int IntKind.u8 12)) fun v0 =>
    bd (cvInt IntKind.i64 v0) fun v1 =>
      bd (bInt BinOp.lss x8 v1) fun v2 =>
        bsel v2
          (bd (bInt BinOp.add (LV.int IntKind.i64 97) x8) fun v3 =>
            bd (cvInt IntKind.u8 v3) fun v4 =>
              (LCalls Tryz.prog 7 [] st fun v5 st6 =>
                  bd2 (slNew st6 1 (lfill (fun i => some (i * 1, 1)) (List.replicate 1 [LV.int IntKind.u8 0]).flatten [(0, v4)])) fun v7 st8 =>
                    bd (lbytesStr st8 v7) fun v9 =>
                      bd (bStr BinOp.add (LV.str [112]) v9) fun v10 =>
                        LCalls Tryz.prog 6 [x7, v10, v5] st8 fun v11 st12 =>
                          bd (lextract v11 0) fun _v13 =>
                            bd (lextract v11 1) fun v14 =>
                              bd (bInt BinOp.eql v14 (LV.int IntKind.i64 0)) fun v15 =>
                                bd (bInt BinOp.lss x8 (LV.int IntKind.i64 8)) fun v16 =>
                                  bd (bBool BinOp.neq v15 v16) fun v17 =>
                                    bsel v17 (R (LV.bool false) st12)
                                      (bd (bInt BinOp.neq v14 (LV.int IntKind.i64 0)) fun v18 =>
                                        bsel v18
                                          (bd (bInt BinOp.neq v14 (LV.int IntKind.i64 10)) fun v19 =>
                                            bsel v19 (R (LV.bool false) st12)
                                              (bd (bInt BinOp.add x8 (LV.int IntKind.i64 1)) fun v20 =>
                                                P3_1 x0 x1 x5 x7 v20 x11 R
                                                  st12))
                                          (bd (bInt BinOp.add x8 (LV.int IntKind.i64 1)) fun v21 =>
                                            P3_1 x0 x1 x5 x7 v21 x11 R
                                              st12))) ∧
                bd2 (slNew st 1 (lfill (fun i => some (i * 1, 1)) (List.replicate 1 [LV.int IntKind.u8 0]).flatten [(0, v4)])) fun v22 st23 =>
                  bd (lbytesStr st23 v22) fun v24 =>
                    bd (bStr BinOp.add (LV.str [112]) v24) fun v25 =>
                      LCalls Tryz.prog 7 [] st23 fun v26 st27 =>
                        lbytesStr st27 v22 = some v24 ∧
                          LCalls Tryz.prog 6 [x7, v25, v26] st27 fun v28 st29 =>
                            bd (lextract v28 0) fun _v30 =>
                              bd (lextract v28 1) fun v31 =>
                                bd (bInt BinOp.eql v31 (LV.int IntKind.i64 0)) fun v32 =>
                                  bd (bInt BinOp.lss x8 (LV.int IntKind.i64 8)) fun v33 =>
                                    bd (bBool BinOp.neq v32 v33) fun v34 =>
                                      bsel v34 (R (LV.bool false) st29)
                                        (bd (bInt BinOp.neq v31 (LV.int IntKind.i64 0)) fun v35 =>
                                          bsel v35
                                            (bd (bInt BinOp.neq v31 (LV.int IntKind.i64 10)) fun v36 =>
                                              bsel v36 (R (LV.bool false) st29)
                                                (bd (bInt BinOp.add x8 (LV.int IntKind.i64 1)) fun v37 =>
                                                  P3_1 x0 x1 x5 x7 v37 x11 R
                                                    st29))
                                            (bd (bInt BinOp.add x8 (LV.int IntKind.i64 1)) fun v38 =>
                                              P3_1 x0 x1 x5 x7 v38 x11 R
                                                st29)))
          (LCalls Tryz.prog 8 [x7] st fun v39 st40 =>
            bd (lenSl v39) fun v41 =>
              bd (bInt BinOp.rem x0 (LV.int IntKind.u8 12)) fun v42 =>
                bd (cvInt IntKind.i64 v42) fun v43 =>
                  bd (lmins [v43, LV.int IntKind.i64 8]) fun v44 =>
                    bd (bInt BinOp.neq v41 v44) fun v45 =>
                      bsel v45 (LCalls Tryz.prog 8 [x7] st40 fun v46 st47 => bd (lenSl v46) fun v48 => bd (bInt BinOp.eql v48 (LV.int IntKind.i64 0)) fun v49 => R v49 st47)
                        (bd (bInt BinOp.rem x0 (LV.int IntKind.u8 12)) fun v50 =>
                          bd (bInt BinOp.eql v50 (LV.int IntKind.u8 0)) fun v51 =>
                            bsel v51 (LCalls Tryz.prog 8 [x7] st40 fun v52 st53 => bd (lenSl v52) fun v54 => bd (bInt BinOp.eql v54 (LV.int IntKind.i64 0)) fun v55 => R v55 st53)
                              (P3_4 x0 x1 x5 x7 x8 (LV.int IntKind.i64 0) R
                                st40)))
theorem w3_1_eq (x0 x1 x5 x7 x8 x11 : LV) (R : LV → LState → Prop) (st : LState) : levT Tryz.prog [.tmp 6] R [2, 3, 4, 6, 9, 10, 12, 13, 14, 15, 16, 17, 18, 19, 20, 21, 22, 23, 24, 25, 26, 27, 28, 29, 30, 31, 32, 33, 34, 35, 36, 37, 38, 39, 40, 41, 42, 43, 44, 45, 46, 47, 48, 49, 50, 51, 52, 53, 54, 55, 56, 57, 58, 59, 60, 61, 62, 63, 64, 65, 66, 67, 68, 69, 70, 71, 72, 73, 74, 75, 76, 77, 78, 79, 80, 81, 82, 83, 84, 85, 86, 87, 88, 89, 90, 91, 92, 93, 94, 95, 96, 97, 98, 99, 100, 101, 102, 103, 104, 105, 106, 107, 108, 109, 110, 111, 112, 113, 114, 115, 116, 117, 118, 119, 120, 121, 122, 123, 124, 125, 126, 127, 128, 129, 130, 131, 132, 133, 134, 135, 136, 137, 138, 139] [] 3000 (stepIn (pointN Tryz.f3 1)) [x0, x1, .junk, .junk, .junk, x5, .junk, x7, x8, .junk, .junk, x11, .junk, .junk, .junk, .junk, .junk, .junk, .junk, .junk, .junk, .junk, .junk, .junk, .junk, .junk, .junk, .junk, .junk, .junk, .junk, .junk, .junk, .junk, .junk, .junk, .junk, .junk, .junk, .junk, .junk, .junk, .junk, .junk, .junk, .junk, .junk, .junk, .junk, .junk, .junk, .junk, .junk, .junk, .junk, .junk, .junk, .junk, .junk, .junk, .junk, .junk, .junk, .junk, .junk, .junk, .junk, .junk, .junk, .junk, .junk, .junk, .junk, .junk, .junk, .junk, .junk, .junk, .junk, .junk, .junk, .junk, .junk, .junk, .junk, .junk, .junk, .junk, .junk, .junk, .junk, .junk, .junk, .junk, .junk, .junk, .junk, .junk, .junk, .junk, .junk, .junk, .junk, .junk, .junk, .junk, .junk, .junk, .junk, .junk, .junk, .junk, .junk, .junk, .junk, .junk, .junk, .junk, .junk, .junk, .junk, .junk, .junk, .junk, .junk, .junk, .junk, .junk, .junk, .junk, .junk, .junk, .junk, .junk, .junk, .junk, .junk, .junk, .junk, .junk] st = w3_1 x0 x1 x5 x7 x8 x11 R st := by kernel_rfl
theorem p3_1 (x0 x1 x5 x7 x8 x11 : LV) {R : LV → LState → Prop} {st : LState} (h : w3_1 x0 x1 x5 x7 x8 x11 R st) : P3_1 x0 x1 x5 x7 x8 x11 R st :=
  LT.at cm_mixed 3000 (Eq.mpr (w3_1_eq x0 x1 x5 x7 x8 x11 R st) h)

/-- flange.flangelaw27.HostFills, from point 4 on -/
def w3_4 (x0 x1 x5 x7 x8 x11 : LV) (R : LV → LState → Prop) (st : LState) : Prop :=
  bd (bInt BinOp.rem x1 (LV.int IntKind.u8 14)) fun v0 =>
    bd (cvInt IntKind.i64 v0) fun v1 =>
      bd (bInt BinOp.lss x11 v1) fun v2 =>
        bsel v2
          (bd (mkAgg (lfill (fun i => some (i * 1, 1)) [LV.str [], LV.str [], LV.str []] [(0, LV.str [112, 97]), (1, LV.str [118, 109]), (2, LV.str [97])])) fun v3 =>
            bd (mkAgg (lfill (placesL [(0, 3), (3, 1)]) [LV.str [], LV.str [], LV.str [], LV.int IntKind.i64 0] [(0, v3), (1, x11)])) fun v4 =>
              bd (fAddr 4 x5) fun v5 =>
                bd (ld1 st v5) fun v6 =>
                  LCalls Tryz.prog 10 [v4] st fun v7 st8 =>
                    ld1 st8 v5 = some v6 ∧
                      bd
                        (mkAgg
                          (lfill (placesL [(0, 1), (1, 4), (5, 1), (6, 1), (7, 1)])
                            [LV.int IntKind.i64 0, LV.str [], LV.str [], LV.str [], LV.int IntKind.i64 0, LV.nili, LV.nils, LV.str []] [(1, v7), (4, v6)]))
                        fun v9 =>
                        LCalls Tryz.prog 9 [x7, v9] st8 fun v10 st11 =>
                          bd (lextract v10 0) fun v12 =>
                            bd (lextract v10 1) fun v13 =>
                              bd (lextract v10 2) fun v14 =>
                                bd (lenSl v13) fun v15 =>
                                  bd (bInt BinOp.neq v15 (LV.int IntKind.i64 0)) fun v16 =>
                                    bsel v16 (R (LV.bool false) st11)
                                      (bd (bInt BinOp.eql v14 (LV.int IntKind.i64 0)) fun v17 =>
                                        bd (bInt BinOp.lss x11 (LV.int IntKind.i64 8)) fun v18 =>
                                          bd (bBool BinOp.neq v17 v18) fun v19 =>
                                            bsel v19 (R (LV.bool false) st11)
                                              (bd (bInt BinOp.eql v14 (LV.int IntKind.i64 0)) fun v20 =>
                                                bsel v20
                                                  (bd (bInt BinOp.add x11 (LV.int IntKind.i64 1)) fun v21 =>
                                                    bd (bInt BinOp.neq v12 v21) fun v22 =>
                                                      bsel v22 (R (LV.bool false) st11)
                                                        (bd (bInt BinOp.neq v14 (LV.int IntKind.i64 0)) fun v23 =>
                                                          bsel v23
                                                            (bd (bInt BinOp.neq v14 (LV.int IntKind.i64 10)) fun v24 =>
                                                              bsel v24 (R (LV.bool false) st11)
                                                                (bd (bInt BinOp.add x11 (LV.int IntKind.i64 1)) fun v25 =>
                                                                  P3_4 x0 x1 x5 x7 x8 v25 R
                                                                    st11))
                                                            (bd (bInt BinOp.add x11 (LV.int IntKind.i64 1)) fun v26 =>
                                                              P3_4 x0 x1 x5 x7 x8 v26 R
                                                                st11)))
                                                  (bd (bInt BinOp.neq v14 (LV.int IntKind.i64 0)) fun v27 =>
                                                    bsel v27
                                                      (bd (bInt BinOp.neq v14 (LV.int IntKind.i64 10)) fun v28 =>
                                                        bsel v28 (R (LV.bool false) st11)
                                                          (bd (bInt BinOp.add x11 (LV.int IntKind.i64 1)) fun v29 =>
                                                            P3_4 x0 x1 x5 x7 x8 v29 R
                                                              st11))
                                                      (bd (bInt BinOp.add x11 (LV.int IntKind.i64 1)) fun v30 =>
                                                        P3_4 x0 x1 x5 x7 x8 v30 R
                                                          st11)))))
          (LCalls Tryz.prog 11 [x7, LV.str [112, 97]] st fun v31 st32 =>
            bd (bInt BinOp.rem x1 (LV.int IntKind.u8 14)) fun v33 =>
              bd (cvInt IntKind.i64 v33) fun v34 =>
                bd (lmins [v34, LV.int IntKind.i64 8]) fun v35 =>
                  bd (bInt BinOp.eql v31 v35) fun v36 =>
                    bsel v36 (LCalls Tryz.prog 12 [x7, LV.str [112, 97]] st32 fun v37 st38 => bd (lun UnOp.not v37) fun v39 => R v39 st38) (R (LV.bool false) st32))
theorem w3_4_eq (x0 x1 x5 x7 x8 x11 : LV) (R : LV → LState → Prop) (st : LState) : levT Tryz.prog [.tmp 6] R [2, 3, 4, 6, 9, 10, 12, 13, 14, 15, 16, 17, 18, 19, 20, 21, 22, 23, 24, 25, 26, 27, 28, 29, 30, 31, 32, 33, 34, 35, 36, 37, 38, 39, 40, 41, 42, 43, 44, 45, 46, 47, 48, 49, 50, 51, 52, 53, 54, 55, 56, 57, 58, 59, 60, 61, 62, 63, 64, 65, 66, 67, 68, 69, 70, 71, 72, 73, 74, 75, 76, 77, 78, 79, 80, 81, 82, 83, 84, 85, 86, 87, 88, 89, 90, 91, 92, 93, 94, 95, 96, 97, 98, 99, 100, 101, 102, 103, 104, 105, 106, 107, 108, 109, 110, 111, 112, 113, 114, 115, 116, 117, 118, 119, 120, 121, 122, 123, 124, 125, 126, 127, 128, 129, 130, 131, 132, 133, 134, 135, 136, 137, 138, 139] [] 3000 (stepIn (pointN Tryz.f3 4)) [x0, x1, .junk, .junk, .junk, x5, .junk, x7, x8, .junk, .junk, x11, .junk, .junk, .junk, .junk, .junk, .junk, .junk, .junk, .junk, .junk, .junk, .junk, .junk, .junk, .junk, .junk, .junk, .junk, .junk, .junk, .junk, .junk, .junk, .junk, .junk, .junk, .junk, .junk, .junk, .junk, .junk, .junk, .junk, .junk, .junk, .junk, .junk, .junk, .junk, .junk, .junk, .junk, .junk, .junk, .junk, .junk, .junk, .junk, .junk, .junk, .junk, .junk, .junk, .junk, .junk, .junk, .junk, .junk, .junk, .junk, .junk, .junk, .junk, .junk, .junk, .junk, .junk, .junk, .junk, .junk, .junk, .junk, .junk, .junk, .junk, .junk, .junk, .junk, .junk, .junk, .junk, .junk, .junk, .junk, .junk, .junk, .junk, .junk, .junk, .junk, .junk, .junk, .junk, .junk, .junk, .junk, .junk, .junk, .junk, .junk, .junk, .junk, .junk, .junk, .junk, .junk, .junk, .junk, .junk, .junk, .junk, .junk, .junk, .junk, .junk, .junk, .junk, .junk, .junk, .junk, .junk, .junk, .junk, .junk, .junk, .junk, .junk, .junk] st = w3_4 x0 x1 x5 x7 x8 x11 R st := by kernel_rfl
theorem p3_4 (x0 x1 x5 x7 x8 x11 : LV) {R : LV → LState → Prop} {st : LState} (h : w3_4 x0 x1 x5 x7 x8 x11 R st) : P3_4 x0 x1 x5 x7 x8 x11 R st :=
  LT.at cm_mixed 3000 (Eq.mpr (w3_4_eq x0 x1 x5 x7 x8 x11 R st) h)

end Go.Proofs.YthiaahbmibndkaaGreatDoor
