/- Walks over the clean machine: what each function does, printed by a program of this work (cmp.py) out of the loaded functions; each is checked by the kernel. -/
import Derived.Test.YtkjmpjaahgficaaQuW
namespace Go.Proofs.Ytkjmpjaahgficaa
open Go Go.CM
set_option maxRecDepth 100000

/-- (*flange.queue.Queue[string]).Put -/
def w10 (a0 a1 : LV) (R : LV → LState → Prop) (st : LState) : Prop :=
  bd (eqB BinOp.eql (eqPtr a0 LV.nilp)) fun v0 =>
    bsel v0 (R (LV.tup [LV.int IntKind.i64 0, LV.int IntKind.i64 11]) st)
      (bd (lnilCheck a0) fun v1 =>
        bd (fAddr 0 v1) fun v2 =>
          bd (ld1 st v2) fun v3 =>
            bd (lenSl v3) fun v4 =>
              bd (lnilCheck a0) fun v5 =>
                bd (fAddr 1 v5) fun v6 =>
                  bd (ld1 st v6) fun v7 =>
                    bd (bInt BinOp.geq v4 v7) fun v8 =>
                      bsel v8 (R (LV.tup [LV.int IntKind.i64 0, LV.int IntKind.i64 10]) st)
                        (bd (lnilCheck a0) fun v9 =>
                          bd (fAddr 2 v9) fun v10 =>
                            bd (ld1 st v10) fun v11 =>
                              bd (bInt BinOp.add v11 (LV.int IntKind.i64 1)) fun v12 =>
                                bd (lnilCheck a0) fun v13 =>
                                  bd (fAddr 2 v13) fun v14 =>
                                    bd2 (lmk (stV st 1 v14 v12)) fun v15 st16 =>
                                      bd (lnilCheck a0) fun v17 =>
                                        bd (fAddr 0 v17) fun v18 =>
                                          bd (ld1 st16 v18) fun v19 =>
                                            bd (lnilCheck a0) fun v20 =>
                                              bd (fAddr 2 v20) fun v21 =>
                                                bd (ld1 st16 v21) fun v22 =>
                                                  bd (mkAgg (lfill (placesL [(0, 1), (1, 1)]) [LV.str [], LV.int IntKind.i64 0] [(0, a1), (1, v22)])) fun v23 =>
                                                    bd2 (slNew st16 1 (lfill (fun i => some (i * 2, 2)) (List.replicate 1 [LV.str [], LV.int IntKind.i64 0]).flatten [(0, v23)]))
                                                      fun v24 st25 =>
                                                      ld1 st25 v18 = some v19 ∧
                                                        bd2 (lappend st25 2 24 v19 v24) fun v26 st27 =>
                                                          bd (lnilCheck a0) fun v28 =>
                                                            bd (fAddr 0 v28) fun v29 =>
                                                              bd2 (lmk (stV st27 1 v29 v26)) fun v30 st31 =>
                                                                bd (lnilCheck a0) fun v32 =>
                                                                  bd (fAddr 2 v32) fun v33 => bd (ld1 st31 v33) fun v34 => R (LV.tup [v34, LV.int IntKind.i64 0]) st31))
theorem w10_eq (a0 a1 : LV) (R : LV → LState → Prop) (st : LState) : levT Try.prog [.tmp 4, .tmp 5] R [] [] 3000 [.code (bodyOf Try.f10)] ([a0, a1] ++ List.replicate (Try.f10.ntmps - 2) lundef) st = w10 a0 a1 R st := by kernel_rfl
theorem c10 (a0 a1 : LV) {R : LV → LState → Prop} {st : LState} (h : w10 a0 a1 R st) : LCalls Try.prog 10 [a0, a1] st R :=
  LCalls.of cm_mixed Try.func10 (show Try.f10.body = some (bodyOf Try.f10) by kernel_rfl) (by kernel_rfl) (show Try.f10.results.toList = [.tmp 4, .tmp 5] by kernel_rfl) (levT_sound cm_mixed 3000 (Eq.mpr (w10_eq a0 a1 R st) h))

/-- (*flange.queue.Queue[string]).Take -/
def w11 (a0 : LV) (R : LV → LState → Prop) (st : LState) : Prop :=
  LCalls Try.prog 27 [a0] st fun v0 st1 =>
    bd (lextract v0 0) fun v2 =>
      bd (lextract v0 1) fun v3 =>
        bd (lextract v0 2) fun v4 =>
          bsel v4
            (bd (lnilCheck a0) fun v5 =>
              bd (fAddr 0 v5) fun v6 =>
                bd (ld1 st1 v6) fun v7 =>
                  LCalls Try.prog 28 [v7, LV.int IntKind.i64 0, LV.int IntKind.i64 1] st1 fun v8 st9 =>
                    bd (lnilCheck a0) fun v10 => bd (fAddr 0 v10) fun v11 => bd2 (lmk (stV st9 1 v11 v8)) fun v12 st13 => R (LV.tup [v2, v3, v4]) st13)
            (R (LV.tup [v2, v3, v4]) st1)
theorem w11_eq (a0 : LV) (R : LV → LState → Prop) (st : LState) : levT Try.prog [.tmp 2, .tmp 3, .tmp 4] R [] [] 3000 [.code (bodyOf Try.f11)] ([a0] ++ List.replicate (Try.f11.ntmps - 1) lundef) st = w11 a0 R st := by kernel_rfl
theorem c11 (a0 : LV) {R : LV → LState → Prop} {st : LState} (h : w11 a0 R st) : LCalls Try.prog 11 [a0] st R :=
  LCalls.of cm_mixed Try.func11 (show Try.f11.body = some (bodyOf Try.f11) by kernel_rfl) (by kernel_rfl) (show Try.f11.results.toList = [.tmp 2, .tmp 3, .tmp 4] by kernel_rfl) (levT_sound cm_mixed 3000 (Eq.mpr (w11_eq a0 R st) h))

/-- (*flange.queue.Queue[string]).Len -/
def w12 (a0 : LV) (R : LV → LState → Prop) (st : LState) : Prop :=
  bd (eqB BinOp.eql (eqPtr a0 LV.nilp)) fun v0 =>
    bsel v0 (R (LV.int IntKind.i64 0) st) (bd (lnilCheck a0) fun v1 => bd (fAddr 0 v1) fun v2 => bd (ld1 st v2) fun v3 => bd (lenSl v3) fun v4 => R v4 st)
theorem w12_eq (a0 : LV) (R : LV → LState → Prop) (st : LState) : levT Try.prog [.tmp 2] R [] [] 3000 [.code (bodyOf Try.f12)] ([a0] ++ List.replicate (Try.f12.ntmps - 1) lundef) st = w12 a0 R st := by kernel_rfl
theorem c12 (a0 : LV) {R : LV → LState → Prop} {st : LState} (h : w12 a0 R st) : LCalls Try.prog 12 [a0] st R :=
  LCalls.of cm_mixed Try.func12 (show Try.f12.body = some (bodyOf Try.f12) by kernel_rfl) (by kernel_rfl) (show Try.f12.results.toList = [.tmp 2] by kernel_rfl) (levT_sound cm_mixed 3000 (Eq.mpr (w12_eq a0 R st) h))

/-- (*flange.queue.Queue[string]).First -/
def w27 (a0 : LV) (R : LV → LState → Prop) (st : LState) : Prop :=
  LCalls Try.prog 12 [a0] st fun v0 st1 =>
    bd (bInt BinOp.eql v0 (LV.int IntKind.i64 0)) fun v2 =>
      bsel v2 (R (LV.tup [LV.str [], LV.int IntKind.i64 0, LV.bool false]) st1)
        (bd (lnilCheck a0) fun v3 =>
          bd (fAddr 0 v3) fun v4 =>
            bd (ld1 st1 v4) fun v5 =>
              bd (ixSl 2 v5 (LV.int IntKind.i64 0)) fun v6 =>
                bd (fAddr 0 v6) fun v7 =>
                  bd (ld1 st1 v7) fun v8 =>
                    bd (lnilCheck a0) fun v9 =>
                      bd (fAddr 0 v9) fun v10 =>
                        bd (ld1 st1 v10) fun v11 =>
                          bd (ixSl 2 v11 (LV.int IntKind.i64 0)) fun v12 => bd (fAddr 1 v12) fun v13 => bd (ld1 st1 v13) fun v14 => R (LV.tup [v8, v14, LV.bool true]) st1)
theorem w27_eq (a0 : LV) (R : LV → LState → Prop) (st : LState) : levT Try.prog [.tmp 2, .tmp 3, .tmp 4] R [] [] 3000 [.code (bodyOf Try.f27)] ([a0] ++ List.replicate (Try.f27.ntmps - 1) lundef) st = w27 a0 R st := by kernel_rfl
theorem c27 (a0 : LV) {R : LV → LState → Prop} {st : LState} (h : w27 a0 R st) : LCalls Try.prog 27 [a0] st R :=
  LCalls.of cm_mixed Try.func27 (show Try.f27.body = some (bodyOf Try.f27) by kernel_rfl) (by kernel_rfl) (show Try.f27.results.toList = [.tmp 2, .tmp 3, .tmp 4] by kernel_rfl) (levT_sound cm_mixed 3000 (Eq.mpr (w27_eq a0 R st) h))

/-- slices.Delete[[]flange.queue.item[string],flange.queue.item[string]] -/
def w28 (a0 a1 a2 : LV) (R : LV → LState → Prop) (st : LState) : Prop :=
  bd (lenSl a0) fun v0 =>
    bd (ob3 (some a1) (some a2) (some v0) fun l h m => slRoom st 2 a0 l h m) fun v1 =>
      bd (bInt BinOp.eql a1 a2) fun v2 =>
        bsel v2 (R a0 st)
          (bd (lenSl a0) fun v3 =>
            bd (ob3 none (some a1) none fun l h m => slRoom st 2 a0 l h m) fun v4 =>
              bd (ob3 (some a2) none none fun l h m => slRoom st 2 a0 l h m) fun v5 =>
                bd2 (lappend st 2 24 v4 v5) fun v6 st7 =>
                  bd (lenSl v6) fun v8 =>
                    bd (ob3 (some v8) (some v3) none fun l h m => slRoom st7 2 v6 l h m) fun v9 =>
                      bd2 (lmk (lclear st7 [LV.str [], LV.int IntKind.i64 0] v9)) fun v10 st11 => R v6 st11)
theorem w28_eq (a0 a1 a2 : LV) (R : LV → LState → Prop) (st : LState) : levT Try.prog [.tmp 6] R [] [] 3000 [.code (bodyOf Try.f28)] ([a0, a1, a2] ++ List.replicate (Try.f28.ntmps - 3) lundef) st = w28 a0 a1 a2 R st := by kernel_rfl
theorem c28 (a0 a1 a2 : LV) {R : LV → LState → Prop} {st : LState} (h : w28 a0 a1 a2 R st) : LCalls Try.prog 28 [a0, a1, a2] st R :=
  LCalls.of cm_mixed Try.func28 (show Try.f28.body = some (bodyOf Try.f28) by kernel_rfl) (by kernel_rfl) (show Try.f28.results.toList = [.tmp 6] by kernel_rfl) (levT_sound cm_mixed 3000 (Eq.mpr (w28_eq a0 a1 a2 R st) h))

end Go.Proofs.Ytkjmpjaahgficaa
