/- Walks over the clean machine: what each function does, printed by a program of this work (cmp.py) out of the loaded functions; each is checked by the kernel. -/
import Derived.Test.YtkjmpjaahgficaaProg
import Derived.Test.YtkjmpjaahgficaaCm24
namespace Go.Proofs.Ytkjmpjaahgficaa
open Go Go.CM
set_option maxRecDepth 100000
theorem cm_mixed : Try.prog.follows .mixedOrders = true := by kernel_rfl

/-- flange.queue.New[string] -/
def w9 (a0 : LV) (R : LV → LState → Prop) (st : LState) : Prop :=
  bd (bInt BinOp.lss a0 (LV.int IntKind.i64 0)) fun v0 =>
    bsel v0 (R (LV.tup [LV.nilp, LV.int IntKind.i64 1]) st)
      (bd (bInt BinOp.gtr a0 (LV.int IntKind.i64 1000)) fun v1 =>
        bsel v1 (R (LV.tup [LV.nilp, LV.int IntKind.i64 1]) st)
          (bd (mkAgg (lfill (placesL [(0, 1), (1, 1), (2, 1)]) [LV.nils, LV.int IntKind.i64 0, LV.int IntKind.i64 0] [(1, a0)])) fun v2 =>
            bd2 (lbox st v2) fun v3 st4 => R (LV.tup [v3, LV.int IntKind.i64 0]) st4))
theorem w9_eq (a0 : LV) (R : LV → LState → Prop) (st : LState) : levT Try.prog [.tmp 2, .tmp 3] R [] [] 3000 [.code (bodyOf Try.f9)] ([a0] ++ List.replicate (Try.f9.ntmps - 1) lundef) st = w9 a0 R st := by kernel_rfl
theorem c9 (a0 : LV) {R : LV → LState → Prop} {st : LState} (h : w9 a0 R st) : LCalls Try.prog 9 [a0] st R :=
  LCalls.of cm_mixed Try.func9 (show Try.f9.body = some (bodyOf Try.f9) by kernel_rfl) (by kernel_rfl) (show Try.f9.results.toList = [.tmp 2, .tmp 3] by kernel_rfl) (levT_sound cm_mixed 3000 (Eq.mpr (w9_eq a0 R st) h))

/-- flange.queue.New[int] -/
def w13 (a0 : LV) (R : LV → LState → Prop) (st : LState) : Prop :=
  bd (bInt BinOp.lss a0 (LV.int IntKind.i64 0)) fun v0 =>
    bsel v0 (R (LV.tup [LV.nilp, LV.int IntKind.i64 1]) st)
      (bd (bInt BinOp.gtr a0 (LV.int IntKind.i64 1000)) fun v1 =>
        bsel v1 (R (LV.tup [LV.nilp, LV.int IntKind.i64 1]) st)
          (bd (mkAgg (lfill (placesL [(0, 1), (1, 1), (2, 1)]) [LV.nils, LV.int IntKind.i64 0, LV.int IntKind.i64 0] [(1, a0)])) fun v2 =>
            bd2 (lbox st v2) fun v3 st4 => R (LV.tup [v3, LV.int IntKind.i64 0]) st4))
theorem w13_eq (a0 : LV) (R : LV → LState → Prop) (st : LState) : levT Try.prog [.tmp 2, .tmp 3] R [] [] 3000 [.code (bodyOf Try.f13)] ([a0] ++ List.replicate (Try.f13.ntmps - 1) lundef) st = w13 a0 R st := by kernel_rfl
theorem c13 (a0 : LV) {R : LV → LState → Prop} {st : LState} (h : w13 a0 R st) : LCalls Try.prog 13 [a0] st R :=
  LCalls.of cm_mixed Try.func13 (show Try.f13.body = some (bodyOf Try.f13) by kernel_rfl) (by kernel_rfl) (show Try.f13.results.toList = [.tmp 2, .tmp 3] by kernel_rfl) (levT_sound cm_mixed 3000 (Eq.mpr (w13_eq a0 R st) h))

/-- (*flange.queue.Queue[int]).Len -/
def w20 (a0 : LV) (R : LV → LState → Prop) (st : LState) : Prop :=
  bd (eqB BinOp.eql (eqPtr a0 LV.nilp)) fun v0 =>
    bsel v0 (R (LV.int IntKind.i64 0) st) (bd (lnilCheck a0) fun v1 => bd (fAddr 0 v1) fun v2 => bd (ld1 st v2) fun v3 => bd (lenSl v3) fun v4 => R v4 st)
theorem w20_eq (a0 : LV) (R : LV → LState → Prop) (st : LState) : levT Try.prog [.tmp 2] R [] [] 3000 [.code (bodyOf Try.f20)] ([a0] ++ List.replicate (Try.f20.ntmps - 1) lundef) st = w20 a0 R st := by kernel_rfl
theorem c20 (a0 : LV) {R : LV → LState → Prop} {st : LState} (h : w20 a0 R st) : LCalls Try.prog 20 [a0] st R :=
  LCalls.of cm_mixed Try.func20 (show Try.f20.body = some (bodyOf Try.f20) by kernel_rfl) (by kernel_rfl) (show Try.f20.results.toList = [.tmp 2] by kernel_rfl) (levT_sound cm_mixed 3000 (Eq.mpr (w20_eq a0 R st) h))

/-- (*flange.queue.Queue[int]).Put -/
def w14 (a0 a1 : LV) (R : LV → LState → Prop) (st : LState) : Prop :=
  bd (eqB BinOp.eql (eqPtr a0 LV.nilp)) fun v0 =>
    bsel v0 (R (LV.tup [LV.int IntKind.i64 0, LV.int IntKind.i64 11]) st)
      (bd (lnilCheck a0) fun v1 =>
        bd (fAddr 0 v1) fun v2 =>
          bd (ld1 st v2) fun v3 =>
            bd (lenSl v3) fun v4 =>
              bd (lnilCheck a0) fun v5 =>
                bd (fAddr 1 v5) fun v6 =>
                  bd (ld1 st v6) fun v7 =>
                    bd (bInt BinOp.geq v4 v7) fun v8 =>
                      bsel v8 (R (LV.tup [LV.int IntKind.i64 0, LV.int IntKind.i64 10]) st)
                        (bd (lnilCheck a0) fun v9 =>
                          bd (fAddr 2 v9) fun v10 =>
                            bd (ld1 st v10) fun v11 =>
                              bd (bInt BinOp.add v11 (LV.int IntKind.i64 1)) fun v12 =>
                                bd (lnilCheck a0) fun v13 =>
                                  bd (fAddr 2 v13) fun v14 =>
                                    bd2 (lmk (stV st 1 v14 v12)) fun v15 st16 =>
                                      bd (lnilCheck a0) fun v17 =>
                                        bd (fAddr 0 v17) fun v18 =>
                                          bd (ld1 st16 v18) fun v19 =>
                                            bd (lnilCheck a0) fun v20 =>
                                              bd (fAddr 2 v20) fun v21 =>
                                                bd (ld1 st16 v21) fun v22 =>
                                                  bd (mkAgg (lfill (placesL [(0, 1), (1, 1)]) [LV.int IntKind.i64 0, LV.int IntKind.i64 0] [(0, a1), (1, v22)])) fun v23 =>
                                                    bd2
                                                      (slNew st16 1
                                                        (lfill (fun i => some (i * 2, 2)) (List.replicate 1 [LV.int IntKind.i64 0, LV.int IntKind.i64 0]).flatten [(0, v23)]))
                                                      fun v24 st25 =>
                                                      ld1 st25 v18 = some v19 ∧
                                                        bd2 (lappend st25 2 16 v19 v24) fun v26 st27 =>
                                                          bd (lnilCheck a0) fun v28 =>
                                                            bd (fAddr 0 v28) fun v29 =>
                                                              bd2 (lmk (stV st27 1 v29 v26)) fun v30 st31 =>
                                                                bd (lnilCheck a0) fun v32 =>
                                                                  bd (fAddr 2 v32) fun v33 => bd (ld1 st31 v33) fun v34 => R (LV.tup [v34, LV.int IntKind.i64 0]) st31))
theorem w14_eq (a0 a1 : LV) (R : LV → LState → Prop) (st : LState) : levT Try.prog [.tmp 4, .tmp 5] R [] [] 3000 [.code (bodyOf Try.f14)] ([a0, a1] ++ List.replicate (Try.f14.ntmps - 2) lundef) st = w14 a0 a1 R st := by kernel_rfl
theorem c14 (a0 a1 : LV) {R : LV → LState → Prop} {st : LState} (h : w14 a0 a1 R st) : LCalls Try.prog 14 [a0, a1] st R :=
  LCalls.of cm_mixed Try.func14 (show Try.f14.body = some (bodyOf Try.f14) by kernel_rfl) (by kernel_rfl) (show Try.f14.results.toList = [.tmp 4, .tmp 5] by kernel_rfl) (levT_sound cm_mixed 3000 (Eq.mpr (w14_eq a0 a1 R st) h))

/-- (*flange.queue.Queue[int]).Numbers -/
def w21 (a0 : LV) (R : LV → LState → Prop) (st : LState) : Prop :=
  bd (eqB BinOp.neq (eqPtr a0 LV.nilp)) fun v0 =>
    bsel v0
      (bd (lnilCheck a0) fun v1 =>
        bd (fAddr 0 v1) fun v2 =>
          bd (ld1 st v2) fun v3 =>
            bd (lenSl v3) fun v4 =>
              LT Try.prog [ResultVar.tmp 2] (pointN Try.f21 1) R
                [LV.junk, LV.junk, LV.junk, LV.nils, LV.junk, LV.junk, LV.junk, LV.junk, LV.junk, LV.junk, LV.junk, v3, v4, LV.int IntKind.i64 0, LV.junk, LV.junk, LV.junk, LV.junk,
                  LV.junk, LV.junk, LV.junk, LV.junk, LV.junk, LV.junk]
                st)
      (R LV.nils st)
theorem w21_eq (a0 : LV) (R : LV → LState → Prop) (st : LState) : levT Try.prog [.tmp 2] R [0, 1, 2, 4, 5, 6, 7, 8, 9, 10, 14, 15, 16, 17, 18, 19, 20, 21, 22, 23] [] 3000 [.code (bodyOf Try.f21)] ([a0] ++ List.replicate (Try.f21.ntmps - 1) lundef) st = w21 a0 R st := by kernel_rfl
theorem c21 (a0 : LV) {R : LV → LState → Prop} {st : LState} (h : w21 a0 R st) : LCalls Try.prog 21 [a0] st R :=
  LCalls.of cm_mixed Try.func21 (show Try.f21.body = some (bodyOf Try.f21) by kernel_rfl) (by kernel_rfl) (show Try.f21.results.toList = [.tmp 2] by kernel_rfl) (levT_sound cm_mixed 3000 (Eq.mpr (w21_eq a0 R st) h))

/-- (*flange.queue.Queue[int]).Numbers, from point 1 on -/
def w21_1 (x3 x11 x12 x13 : LV) (R : LV → LState → Prop) (st : LState) : Prop :=
  bd (bInt BinOp.lss x13 x12) fun v0 =>
    bsel v0
      (bd (ixSl 2 x11 x13) fun v1 =>
        bd (ldA st v1 2) fun v2 =>
          nw st [LV.int IntKind.i64 0, LV.int IntKind.i64 0] fun v3 st4 =>
            bd2 (lmk (stV st4 2 v3 v2)) fun v5 st6 =>
              bd (fAddr 1 v3) fun v7 =>
                bd (ld1 st6 v7) fun v8 =>
                  bd2 (slNew st6 1 (lfill (fun i => some (i * 1, 1)) (List.replicate 1 [LV.int IntKind.i64 0]).flatten [(0, v8)])) fun v9 st10 =>
                    bd2 (lappend st10 1 8 x3 v9) fun v11 st12 =>
                      bd (bInt BinOp.add x13 (LV.int IntKind.i64 1)) fun v13 =>
                        LT Try.prog [ResultVar.tmp 2] (pointN Try.f21 1) R
                          [LV.junk, LV.junk, LV.junk, v11, LV.junk, LV.junk, LV.junk, LV.junk, LV.junk, LV.junk, LV.junk, x11, x12, v13, LV.junk, LV.junk, LV.junk, LV.junk, LV.junk,
                            LV.junk, LV.junk, LV.junk, LV.junk, LV.junk]
                          st12)
      (R x3 st)
theorem w21_1_eq (x3 x11 x12 x13 : LV) (R : LV → LState → Prop) (st : LState) : levT Try.prog [.tmp 2] R [0, 1, 2, 4, 5, 6, 7, 8, 9, 10, 14, 15, 16, 17, 18, 19, 20, 21, 22, 23] [] 3000 (stepIn (pointN Try.f21 1)) [.junk, .junk, .junk, x3, .junk, .junk, .junk, .junk, .junk, .junk, .junk, x11, x12, x13, .junk, .junk, .junk, .junk, .junk, .junk, .junk, .junk, .junk, .junk] st = w21_1 x3 x11 x12 x13 R st := by kernel_rfl
theorem p21_1 (x3 x11 x12 x13 : LV) {R : LV → LState → Prop} {st : LState} (h : w21_1 x3 x11 x12 x13 R st) : LT Try.prog [.tmp 2] (pointN Try.f21 1) R [.junk, .junk, .junk, x3, .junk, .junk, .junk, .junk, .junk, .junk, .junk, x11, x12, x13, .junk, .junk, .junk, .junk, .junk, .junk, .junk, .junk, .junk, .junk] st :=
  LT.at cm_mixed 3000 (Eq.mpr (w21_1_eq x3 x11 x12 x13 R st) h)

/-- (*flange.queue.Queue[int]).Clear -/
def w17 (a0 : LV) (R : LV → LState → Prop) (st : LState) : Prop :=
  bd (eqB BinOp.neq (eqPtr a0 LV.nilp)) fun v0 =>
    bsel v0
      (bd (lnilCheck a0) fun v1 =>
        bd (fAddr 0 v1) fun v2 =>
          bd (ld1 st v2) fun v3 =>
            bd (lenSl v3) fun v4 =>
              LT Try.prog [ResultVar.tmp 2] (pointN Try.f17 1) R
                [a0, LV.junk, LV.junk, LV.nils, LV.junk, LV.junk, LV.junk, LV.junk, LV.junk, LV.junk, LV.junk, v3, v4, LV.int IntKind.i64 0, LV.junk, LV.junk, LV.junk, LV.junk,
                  LV.junk, LV.junk, LV.junk, LV.junk, LV.junk, LV.junk, LV.junk, LV.junk, LV.junk, LV.junk, LV.junk, LV.junk, LV.junk]
                st)
      (R LV.nils st)
theorem w17_eq (a0 : LV) (R : LV → LState → Prop) (st : LState) : levT Try.prog [.tmp 2] R [1, 2, 4, 5, 6, 7, 8, 9, 10, 14, 15, 16, 17, 18, 19, 20, 21, 22, 23, 24, 25, 26, 27, 28, 29, 30] [] 3000 [.code (bodyOf Try.f17)] ([a0] ++ List.replicate (Try.f17.ntmps - 1) lundef) st = w17 a0 R st := by kernel_rfl
theorem c17 (a0 : LV) {R : LV → LState → Prop} {st : LState} (h : w17 a0 R st) : LCalls Try.prog 17 [a0] st R :=
  LCalls.of cm_mixed Try.func17 (show Try.f17.body = some (bodyOf Try.f17) by kernel_rfl) (by kernel_rfl) (show Try.f17.results.toList = [.tmp 2] by kernel_rfl) (levT_sound cm_mixed 3000 (Eq.mpr (w17_eq a0 R st) h))

/-- (*flange.queue.Queue[int]).Clear, from point 1 on -/
def w17_1 (x0 x3 x11 x12 x13 : LV) (R : LV → LState → Prop) (st : LState) : Prop :=
  bd (bInt BinOp.lss x13 x12) fun v0 =>
    bsel v0
      (bd (ixSl 2 x11 x13) fun v1 =>
        bd (ldA st v1 2) fun v2 =>
          nw st [LV.int IntKind.i64 0, LV.int IntKind.i64 0] fun v3 st4 =>
            bd2 (lmk (stV st4 2 v3 v2)) fun v5 st6 =>
              bd (fAddr 0 v3) fun v7 =>
                bd (ld1 st6 v7) fun v8 =>
                  bd2 (slNew st6 1 (lfill (fun i => some (i * 1, 1)) (List.replicate 1 [LV.int IntKind.i64 0]).flatten [(0, v8)])) fun v9 st10 =>
                    bd2 (lappend st10 1 8 x3 v9) fun v11 st12 =>
                      bd (bInt BinOp.add x13 (LV.int IntKind.i64 1)) fun v13 =>
                        LT Try.prog [ResultVar.tmp 2] (pointN Try.f17 1) R
                          [x0, LV.junk, LV.junk, v11, LV.junk, LV.junk, LV.junk, LV.junk, LV.junk, LV.junk, LV.junk, x11, x12, v13, LV.junk, LV.junk, LV.junk, LV.junk, LV.junk,
                            LV.junk, LV.junk, LV.junk, LV.junk, LV.junk, LV.junk, LV.junk, LV.junk, LV.junk, LV.junk, LV.junk, LV.junk]
                          st12)
      (bd (lnilCheck x0) fun v14 =>
        bd (fAddr 0 v14) fun v15 =>
          bd (ld1 st v15) fun v16 =>
            bd2 (lmk (lclear st [LV.int IntKind.i64 0, LV.int IntKind.i64 0] v16)) fun v17 st18 =>
              bd (lnilCheck x0) fun v19 => bd (fAddr 0 v19) fun v20 => bd2 (lmk (stV st18 1 v20 LV.nils)) fun v21 st22 => R x3 st22)
theorem w17_1_eq (x0 x3 x11 x12 x13 : LV) (R : LV → LState → Prop) (st : LState) : levT Try.prog [.tmp 2] R [1, 2, 4, 5, 6, 7, 8, 9, 10, 14, 15, 16, 17, 18, 19, 20, 21, 22, 23, 24, 25, 26, 27, 28, 29, 30] [] 3000 (stepIn (pointN Try.f17 1)) [x0, .junk, .junk, x3, .junk, .junk, .junk, .junk, .junk, .junk, .junk, x11, x12, x13, .junk, .junk, .junk, .junk, .junk, .junk, .junk, .junk, .junk, .junk, .junk, .junk, .junk, .junk, .junk, .junk, .junk] st = w17_1 x0 x3 x11 x12 x13 R st := by kernel_rfl
theorem p17_1 (x0 x3 x11 x12 x13 : LV) {R : LV → LState → Prop} {st : LState} (h : w17_1 x0 x3 x11 x12 x13 R st) : LT Try.prog [.tmp 2] (pointN Try.f17 1) R [x0, .junk, .junk, x3, .junk, .junk, .junk, .junk, .junk, .junk, .junk, x11, x12, x13, .junk, .junk, .junk, .junk, .junk, .junk, .junk, .junk, .junk, .junk, .junk, .junk, .junk, .junk, .junk, .junk, .junk] st :=
  LT.at cm_mixed 3000 (Eq.mpr (w17_1_eq x0 x3 x11 x12 x13 R st) h)

/-- flange.flangelaw16.same -/
def w18 (a0 a1 : LV) (R : LV → LState → Prop) (st : LState) : Prop :=
  bd (lenSl a0) fun v0 =>
    bd (lenSl a1) fun v1 =>
      bd (bInt BinOp.neq v0 v1) fun v2 =>
        bsel v2 (R (LV.bool false) st)
          (LT Try.prog [ResultVar.tmp 4] (pointN Try.f18 1) R
            [a0, a1, LV.junk, LV.junk, LV.junk, LV.int IntKind.i64 0, LV.junk, LV.junk, LV.junk, LV.junk, LV.junk, LV.junk, LV.junk, LV.junk, LV.junk, LV.junk, LV.junk, LV.junk,
              LV.junk, LV.junk, LV.junk, LV.junk, LV.junk, LV.junk, LV.junk, LV.junk]
            st)
theorem w18_eq (a0 a1 : LV) (R : LV → LState → Prop) (st : LState) : levT Try.prog [.tmp 4] R [2, 3, 4, 6, 7, 8, 9, 10, 11, 12, 13, 14, 15, 16, 17, 18, 19, 20, 21, 22, 23, 24, 25] [] 3000 [.code (bodyOf Try.f18)] ([a0, a1] ++ List.replicate (Try.f18.ntmps - 2) lundef) st = w18 a0 a1 R st := by kernel_rfl
theorem c18 (a0 a1 : LV) {R : LV → LState → Prop} {st : LState} (h : w18 a0 a1 R st) : LCalls Try.prog 18 [a0, a1] st R :=
  LCalls.of cm_mixed Try.func18 (show Try.f18.body = some (bodyOf Try.f18) by kernel_rfl) (by kernel_rfl) (show Try.f18.results.toList = [.tmp 4] by kernel_rfl) (levT_sound cm_mixed 3000 (Eq.mpr (w18_eq a0 a1 R st) h))

/-- flange.flangelaw16.same, from point 1 on -/
def w18_1 (x0 x1 x5 : LV) (R : LV → LState → Prop) (st : LState) : Prop :=
  bd (lenSl x0) fun v0 =>
    bd (bInt BinOp.lss x5 v0) fun v1 =>
      bsel v1
        (bd (ixSl 1 x0 x5) fun v2 =>
          bd (ld1 st v2) fun v3 =>
            bd (ixSl 1 x1 x5) fun v4 =>
              bd (ld1 st v4) fun v5 =>
                bd (bInt BinOp.neq v3 v5) fun v6 =>
                  bsel v6 (R (LV.bool false) st)
                    (bd (bInt BinOp.add x5 (LV.int IntKind.i64 1)) fun v7 =>
                      LT Try.prog [ResultVar.tmp 4] (pointN Try.f18 1) R
                        [x0, x1, LV.junk, LV.junk, LV.junk, v7, LV.junk, LV.junk, LV.junk, LV.junk, LV.junk, LV.junk, LV.junk, LV.junk, LV.junk, LV.junk, LV.junk, LV.junk, LV.junk,
                          LV.junk, LV.junk, LV.junk, LV.junk, LV.junk, LV.junk, LV.junk]
                        st))
        (R (LV.bool true) st)
theorem w18_1_eq (x0 x1 x5 : LV) (R : LV → LState → Prop) (st : LState) : levT Try.prog [.tmp 4] R [2, 3, 4, 6, 7, 8, 9, 10, 11, 12, 13, 14, 15, 16, 17, 18, 19, 20, 21, 22, 23, 24, 25] [] 3000 (stepIn (pointN Try.f18 1)) [x0, x1, .junk, .junk, .junk, x5, .junk, .junk, .junk, .junk, .junk, .junk, .junk, .junk, .junk, .junk, .junk, .junk, .junk, .junk, .junk, .junk, .junk, .junk, .junk, .junk] st = w18_1 x0 x1 x5 R st := by kernel_rfl
theorem p18_1 (x0 x1 x5 : LV) {R : LV → LState → Prop} {st : LState} (h : w18_1 x0 x1 x5 R st) : LT Try.prog [.tmp 4] (pointN Try.f18 1) R [x0, x1, .junk, .junk, .junk, x5, .junk, .junk, .junk, .junk, .junk, .junk, .junk, .junk, .junk, .junk, .junk, .junk, .junk, .junk, .junk, .junk, .junk, .junk, .junk, .junk] st :=
  LT.at cm_mixed 3000 (Eq.mpr (w18_1_eq x0 x1 x5 R st) h)

/-- (*flange.queue.Queue[int]).First -/
def w19 (a0 : LV) (R : LV → LState → Prop) (st : LState) : Prop :=
  LCalls Try.prog 20 [a0] st fun v0 st1 =>
    bd (bInt BinOp.eql v0 (LV.int IntKind.i64 0)) fun v2 =>
      bsel v2 (R (LV.tup [LV.int IntKind.i64 0, LV.int IntKind.i64 0, LV.bool false]) st1)
        (bd (lnilCheck a0) fun v3 =>
          bd (fAddr 0 v3) fun v4 =>
            bd (ld1 st1 v4) fun v5 =>
              bd (ixSl 2 v5 (LV.int IntKind.i64 0)) fun v6 =>
                bd (fAddr 0 v6) fun v7 =>
                  bd (ld1 st1 v7) fun v8 =>
                    bd (lnilCheck a0) fun v9 =>
                      bd (fAddr 0 v9) fun v10 =>
                        bd (ld1 st1 v10) fun v11 =>
                          bd (ixSl 2 v11 (LV.int IntKind.i64 0)) fun v12 => bd (fAddr 1 v12) fun v13 => bd (ld1 st1 v13) fun v14 => R (LV.tup [v8, v14, LV.bool true]) st1)
theorem w19_eq (a0 : LV) (R : LV → LState → Prop) (st : LState) : levT Try.prog [.tmp 2, .tmp 3, .tmp 4] R [] [] 3000 [.code (bodyOf Try.f19)] ([a0] ++ List.replicate (Try.f19.ntmps - 1) lundef) st = w19 a0 R st := by kernel_rfl
theorem c19 (a0 : LV) {R : LV → LState → Prop} {st : LState} (h : w19 a0 R st) : LCalls Try.prog 19 [a0] st R :=
  LCalls.of cm_mixed Try.func19 (show Try.f19.body = some (bodyOf Try.f19) by kernel_rfl) (by kernel_rfl) (show Try.f19.results.toList = [.tmp 2, .tmp 3, .tmp 4] by kernel_rfl) (levT_sound cm_mixed 3000 (Eq.mpr (w19_eq a0 R st) h))

/-- (*flange.queue.Queue[int]).Take -/
def w15 (a0 : LV) (R : LV → LState → Prop) (st : LState) : Prop :=
  LCalls Try.prog 19 [a0] st fun v0 st1 =>
    bd (lextract v0 0) fun v2 =>
      bd (lextract v0 1) fun v3 =>
        bd (lextract v0 2) fun v4 =>
          bsel v4
            (bd (lnilCheck a0) fun v5 =>
              bd (fAddr 0 v5) fun v6 =>
                bd (ld1 st1 v6) fun v7 =>
                  LCalls Try.prog 29 [v7, LV.int IntKind.i64 0, LV.int IntKind.i64 1] st1 fun v8 st9 =>
                    bd (lnilCheck a0) fun v10 => bd (fAddr 0 v10) fun v11 => bd2 (lmk (stV st9 1 v11 v8)) fun v12 st13 => R (LV.tup [v2, v3, v4]) st13)
            (R (LV.tup [v2, v3, v4]) st1)
theorem w15_eq (a0 : LV) (R : LV → LState → Prop) (st : LState) : levT Try.prog [.tmp 2, .tmp 3, .tmp 4] R [] [] 3000 [.code (bodyOf Try.f15)] ([a0] ++ List.replicate (Try.f15.ntmps - 1) lundef) st = w15 a0 R st := by kernel_rfl
theorem c15 (a0 : LV) {R : LV → LState → Prop} {st : LState} (h : w15 a0 R st) : LCalls Try.prog 15 [a0] st R :=
  LCalls.of cm_mixed Try.func15 (show Try.f15.body = some (bodyOf Try.f15) by kernel_rfl) (by kernel_rfl) (show Try.f15.results.toList = [.tmp 2, .tmp 3, .tmp 4] by kernel_rfl) (levT_sound cm_mixed 3000 (Eq.mpr (w15_eq a0 R st) h))

/-- slices.IndexFunc[[]flange.queue.item[int],flange.queue.item[int]] -/
def w30 (a0 a1 : LV) (R : LV → LState → Prop) (st : LState) : Prop :=
  bd (lenSl a0) fun v0 =>
    LT Try.prog [ResultVar.tmp 4] (pointN Try.f30 1) R
      [a0, a1, LV.junk, LV.junk, LV.junk, LV.junk, LV.junk, v0, LV.int IntKind.i64 0, LV.junk, LV.junk, LV.junk, LV.junk, LV.junk, LV.junk, LV.junk, LV.junk, LV.junk, LV.junk] st
theorem w30_eq (a0 a1 : LV) (R : LV → LState → Prop) (st : LState) : levT Try.prog [.tmp 4] R [2, 3, 4, 5, 6, 9, 10, 11, 12, 13, 14, 15, 16, 17, 18] [] 3000 [.code (bodyOf Try.f30)] ([a0, a1] ++ List.replicate (Try.f30.ntmps - 2) lundef) st = w30 a0 a1 R st := by kernel_rfl
theorem c30 (a0 a1 : LV) {R : LV → LState → Prop} {st : LState} (h : w30 a0 a1 R st) : LCalls Try.prog 30 [a0, a1] st R :=
  LCalls.of cm_mixed Try.func30 (show Try.f30.body = some (bodyOf Try.f30) by kernel_rfl) (by kernel_rfl) (show Try.f30.results.toList = [.tmp 4] by kernel_rfl) (levT_sound cm_mixed 3000 (Eq.mpr (w30_eq a0 a1 R st) h))

/-- slices.IndexFunc[[]flange.queue.item[int],flange.queue.item[int]], from point 1 on -/
def w30_1 (x0 x1 x7 x8 : LV) (R : LV → LState → Prop) (st : LState) : Prop :=
  bd (bInt BinOp.lss x8 x7) fun v0 =>
    bsel v0
      (bd (ixSl 2 x0 x8) fun v1 =>
        bd (ldA st v1 2) fun v2 =>
          bd2 (lclo x1 [v2]) fun f3 xs4 =>
            LCalls Try.prog f3 xs4 st fun v5 st6 =>
              bsel v5 (R x8 st6)
                (bd (bInt BinOp.add x8 (LV.int IntKind.i64 1)) fun v7 =>
                  LT Try.prog [ResultVar.tmp 4] (pointN Try.f30 1) R
                    [x0, x1, LV.junk, LV.junk, LV.junk, LV.junk, LV.junk, x7, v7, LV.junk, LV.junk, LV.junk, LV.junk, LV.junk, LV.junk, LV.junk, LV.junk, LV.junk, LV.junk] st6))
      (R (LV.int IntKind.i64 (-1)) st)
theorem w30_1_eq (x0 x1 x7 x8 : LV) (R : LV → LState → Prop) (st : LState) : levT Try.prog [.tmp 4] R [2, 3, 4, 5, 6, 9, 10, 11, 12, 13, 14, 15, 16, 17, 18] [] 3000 (stepIn (pointN Try.f30 1)) [x0, x1, .junk, .junk, .junk, .junk, .junk, x7, x8, .junk, .junk, .junk, .junk, .junk, .junk, .junk, .junk, .junk, .junk] st = w30_1 x0 x1 x7 x8 R st := by kernel_rfl
theorem p30_1 (x0 x1 x7 x8 : LV) {R : LV → LState → Prop} {st : LState} (h : w30_1 x0 x1 x7 x8 R st) : LT Try.prog [.tmp 4] (pointN Try.f30 1) R [x0, x1, .junk, .junk, .junk, .junk, .junk, x7, x8, .junk, .junk, .junk, .junk, .junk, .junk, .junk, .junk, .junk, .junk] st :=
  LT.at cm_mixed 3000 (Eq.mpr (w30_1_eq x0 x1 x7 x8 R st) h)

/-- (*flange.queue.Queue[int]).Drop$1 -/
def w31 (a0 a1 : LV) (R : LV → LState → Prop) (st : LState) : Prop :=
  bd2 (lbox st a0) fun v0 st1 => bd (fAddr 1 v0) fun v2 => bd (ld1 st1 v2) fun v3 => bd (ld1 st1 a1) fun v4 => bd (bInt BinOp.eql v3 v4) fun v5 => R v5 st1
theorem w31_eq (a0 a1 : LV) (R : LV → LState → Prop) (st : LState) : levT Try.prog [.tmp 3] R [] [] 3000 [.code (bodyOf Try.f31)] ([a0, a1] ++ List.replicate (Try.f31.ntmps - 2) lundef) st = w31 a0 a1 R st := by kernel_rfl
theorem c31 (a0 a1 : LV) {R : LV → LState → Prop} {st : LState} (h : w31 a0 a1 R st) : LCalls Try.prog 31 [a0, a1] st R :=
  LCalls.of cm_mixed Try.func31 (show Try.f31.body = some (bodyOf Try.f31) by kernel_rfl) (by kernel_rfl) (show Try.f31.results.toList = [.tmp 3] by kernel_rfl) (levT_sound cm_mixed 3000 (Eq.mpr (w31_eq a0 a1 R st) h))

/-- slices.Delete[[]flange.queue.item[int],flange.queue.item[int]] -/
def w29 (a0 a1 a2 : LV) (R : LV → LState → Prop) (st : LState) : Prop :=
  bd (lenSl a0) fun v0 =>
    bd (ob3 (some a1) (some a2) (some v0) fun l h m => slRoom st 2 a0 l h m) fun v1 =>
      bd (bInt BinOp.eql a1 a2) fun v2 =>
        bsel v2 (R a0 st)
          (bd (lenSl a0) fun v3 =>
            bd (ob3 none (some a1) none fun l h m => slRoom st 2 a0 l h m) fun v4 =>
              bd (ob3 (some a2) none none fun l h m => slRoom st 2 a0 l h m) fun v5 =>
                bd2 (lappend st 2 16 v4 v5) fun v6 st7 =>
                  bd (lenSl v6) fun v8 =>
                    bd (ob3 (some v8) (some v3) none fun l h m => slRoom st7 2 v6 l h m) fun v9 =>
                      bd2 (lmk (lclear st7 [LV.int IntKind.i64 0, LV.int IntKind.i64 0] v9)) fun v10 st11 => R v6 st11)
theorem w29_eq (a0 a1 a2 : LV) (R : LV → LState → Prop) (st : LState) : levT Try.prog [.tmp 6] R [] [] 3000 [.code (bodyOf Try.f29)] ([a0, a1, a2] ++ List.replicate (Try.f29.ntmps - 3) lundef) st = w29 a0 a1 a2 R st := by kernel_rfl
theorem c29 (a0 a1 a2 : LV) {R : LV → LState → Prop} {st : LState} (h : w29 a0 a1 a2 R st) : LCalls Try.prog 29 [a0, a1, a2] st R :=
  LCalls.of cm_mixed Try.func29 (show Try.f29.body = some (bodyOf Try.f29) by kernel_rfl) (by kernel_rfl) (show Try.f29.results.toList = [.tmp 6] by kernel_rfl) (levT_sound cm_mixed 3000 (Eq.mpr (w29_eq a0 a1 a2 R st) h))

/-- (*flange.queue.Queue[int]).Drop -/
def w16 (a0 a1 : LV) (R : LV → LState → Prop) (st : LState) : Prop :=
  bd2 (lbox st a1) fun v0 st1 =>
    bd (eqB BinOp.eql (eqPtr a0 LV.nilp)) fun v2 =>
      bsel v2 (R (LV.tup [LV.int IntKind.i64 0, LV.bool false]) st1)
        (bd (lnilCheck a0) fun v3 =>
          bd (fAddr 0 v3) fun v4 =>
            bd (ld1 st1 v4) fun v5 =>
              LCalls Try.prog 30 [v5, LV.fn (Fn.func 31) [] [v0]] st1 fun v6 st7 =>
                bd (bInt BinOp.lss v6 (LV.int IntKind.i64 0)) fun v8 =>
                  bsel v8 (R (LV.tup [LV.int IntKind.i64 0, LV.bool false]) st7)
                    (bd (lnilCheck a0) fun v9 =>
                      bd (fAddr 0 v9) fun v10 =>
                        bd (ld1 st7 v10) fun v11 =>
                          bd (ixSl 2 v11 v6) fun v12 =>
                            bd (fAddr 0 v12) fun v13 =>
                              bd (ld1 st7 v13) fun v14 =>
                                bd (lnilCheck a0) fun v15 =>
                                  bd (fAddr 0 v15) fun v16 =>
                                    bd (ld1 st7 v16) fun v17 =>
                                      bd (bInt BinOp.add v6 (LV.int IntKind.i64 1)) fun v18 =>
                                        LCalls Try.prog 29 [v17, v6, v18] st7 fun v19 st20 =>
                                          bd (lnilCheck a0) fun v21 =>
                                            bd (fAddr 0 v21) fun v22 => bd2 (lmk (stV st20 1 v22 v19)) fun v23 st24 => R (LV.tup [v14, LV.bool true]) st24))
theorem w16_eq (a0 a1 : LV) (R : LV → LState → Prop) (st : LState) : levT Try.prog [.tmp 4, .tmp 5] R [] [] 3000 [.code (bodyOf Try.f16)] ([a0, a1] ++ List.replicate (Try.f16.ntmps - 2) lundef) st = w16 a0 a1 R st := by kernel_rfl
theorem c16 (a0 a1 : LV) {R : LV → LState → Prop} {st : LState} (h : w16 a0 a1 R st) : LCalls Try.prog 16 [a0, a1] st R :=
  LCalls.of cm_mixed Try.func16 (show Try.f16.body = some (bodyOf Try.f16) by kernel_rfl) (by kernel_rfl) (show Try.f16.results.toList = [.tmp 4, .tmp 5] by kernel_rfl) (levT_sound cm_mixed 3000 (Eq.mpr (w16_eq a0 a1 R st) h))

/-- flange.flangelaw16.awake -/
def w8 (R : LV → LState → Prop) (st : LState) : Prop :=
  LCalls Try.prog 13 [LV.int IntKind.i64 5] st fun v0 st1 =>
    bd (lextract v0 0) fun v2 =>
      bd (lextract v0 1) fun v3 =>
        LCalls Try.prog 14 [v2, LV.int IntKind.i64 7] st1 fun v4 st5 =>
          bd (lextract v4 0) fun v6 =>
            bd (lextract v4 1) fun v7 =>
              LCalls Try.prog 14 [v2, LV.int IntKind.i64 8] st5 fun v8 st9 =>
                bd (lextract v8 0) fun v10 =>
                  bd (lextract v8 1) fun v11 =>
                    LCalls Try.prog 16 [v2, LV.int IntKind.i64 1] st9 fun v12 st13 =>
                      bd (lextract v12 0) fun v14 =>
                        bd (lextract v12 1) fun v15 =>
                          LCalls Try.prog 15 [v2] st13 fun v16 st17 =>
                            bd (lextract v16 0) fun v18 =>
                              bd (lextract v16 1) fun v19 =>
                                bd (lextract v16 2) fun v20 =>
                                  bd (bInt BinOp.eql v3 (LV.int IntKind.i64 0)) fun v21 =>
                                    bsel v21
                                      (bd (bInt BinOp.eql v6 (LV.int IntKind.i64 1)) fun v22 =>
                                        bsel v22
                                          (bd (bInt BinOp.eql v10 (LV.int IntKind.i64 2)) fun v23 =>
                                            bsel v23
                                              (bd (bInt BinOp.eql v14 (LV.int IntKind.i64 7)) fun v24 =>
                                                bsel v24
                                                  (bsel v15
                                                    (bd (bInt BinOp.eql v18 (LV.int IntKind.i64 8)) fun v25 =>
                                                      bsel v25 (bd (bInt BinOp.eql v19 (LV.int IntKind.i64 2)) fun v26 => bsel v26 (R v20 st17) (R (LV.bool false) st17))
                                                        (R (LV.bool false) st17))
                                                    (R (LV.bool false) st17))
                                                  (R (LV.bool false) st17))
                                              (R (LV.bool false) st17))
                                          (R (LV.bool false) st17))
                                      (R (LV.bool false) st17)
theorem w8_eq (R : LV → LState → Prop) (st : LState) : levT Try.prog [.tmp 0] R [] [] 3000 [.code (bodyOf Try.f8)] ([] ++ List.replicate (Try.f8.ntmps - 0) lundef) st = w8  R st := by kernel_rfl
theorem c8 {R : LV → LState → Prop} {st : LState} (h : w8  R st) : LCalls Try.prog 8 [] st R :=
  LCalls.of cm_mixed Try.func8 (show Try.f8.body = some (bodyOf Try.f8) by kernel_rfl) (by kernel_rfl) (show Try.f8.results.toList = [.tmp 0] by kernel_rfl) (levT_sound cm_mixed 3000 (Eq.mpr (w8_eq  R st) h))

/-- flange.flangelaw16.QueueNone -/
def w5 (a0 : LV) (R : LV → LState → Prop) (st : LState) : Prop :=
  LCalls Try.prog 14 [LV.nilp, a0] st fun v0 st1 =>
    bd (lextract v0 0) fun v2 =>
      bd (lextract v0 1) fun v3 =>
        LCalls Try.prog 15 [LV.nilp] st1 fun v4 st5 =>
          bd (lextract v4 0) fun v6 =>
            bd (lextract v4 1) fun v7 =>
              bd (lextract v4 2) fun v8 =>
                LCalls Try.prog 16 [LV.nilp, a0] st5 fun v9 st10 =>
                  bd (lextract v9 0) fun v11 =>
                    bd (lextract v9 1) fun v12 =>
                      LCalls Try.prog 19 [LV.nilp] st10 fun v13 st14 =>
                        bd (lextract v13 0) fun v15 =>
                          bd (lextract v13 1) fun v16 =>
                            bd (lextract v13 2) fun v17 =>
                              bd (bInt BinOp.eql v2 (LV.int IntKind.i64 0)) fun v18 =>
                                bsel v18
                                  (bd (bInt BinOp.eql v3 (LV.int IntKind.i64 11)) fun v19 =>
                                    bsel v19
                                      (bd (lun UnOp.not v8) fun v20 =>
                                        bsel v20
                                          (bd (lun UnOp.not v12) fun v21 =>
                                            bsel v21
                                              (bd (lun UnOp.not v17) fun v22 =>
                                                bsel v22
                                                  (LCalls Try.prog 20 [LV.nilp] st14 fun v23 st24 =>
                                                    bd (bInt BinOp.eql v23 (LV.int IntKind.i64 0)) fun v25 =>
                                                      bsel v25
                                                        (LCalls Try.prog 21 [LV.nilp] st24 fun v26 st27 =>
                                                          bd (lenSl v26) fun v28 =>
                                                            bd (bInt BinOp.eql v28 (LV.int IntKind.i64 0)) fun v29 =>
                                                              bsel v29
                                                                (LCalls Try.prog 17 [LV.nilp] st27 fun v30 st31 =>
                                                                  bd (lenSl v30) fun v32 =>
                                                                    bd (bInt BinOp.eql v32 (LV.int IntKind.i64 0)) fun v33 =>
                                                                      bsel v33 (LCalls Try.prog 8 [] st31 fun v34 st35 => R v34 st35) (R (LV.bool false) st31))
                                                                (R (LV.bool false) st27))
                                                        (R (LV.bool false) st24))
                                                  (R (LV.bool false) st14))
                                              (R (LV.bool false) st14))
                                          (R (LV.bool false) st14))
                                      (R (LV.bool false) st14))
                                  (R (LV.bool false) st14)
theorem w5_eq (a0 : LV) (R : LV → LState → Prop) (st : LState) : levT Try.prog [.tmp 2] R [] [] 3000 [.code (bodyOf Try.f5)] ([a0] ++ List.replicate (Try.f5.ntmps - 1) lundef) st = w5 a0 R st := by kernel_rfl
theorem c5 (a0 : LV) {R : LV → LState → Prop} {st : LState} (h : w5 a0 R st) : LCalls Try.prog 5 [a0] st R :=
  LCalls.of cm_mixed Try.func5 (show Try.f5.body = some (bodyOf Try.f5) by kernel_rfl) (by kernel_rfl) (show Try.f5.results.toList = [.tmp 2] by kernel_rfl) (levT_sound cm_mixed 3000 (Eq.mpr (w5_eq a0 R st) h))

end Go.Proofs.Ytkjmpjaahgficaa
