/- Walks over the clean machine: what each function does, printed by a program of this work (cmp.py) out of the loaded functions; each is checked by the kernel. -/
import Derived.Test.YtkjmpjaahgficaaProg
import Derived.Test.YtkjmpjaahgficaaCn24
namespace Go.Proofs.Ytkjmpjaahgficaa
open Go Go.CN
set_option maxRecDepth 100000
theorem cm_mixed : Try.prog.follows .mixedOrders = true := by kernel_rfl
/-- the place 1 of f7 -/
def P7_1 (x0 x1 x5 x6 x7 : LV) (R : LV → LState → Prop) (st : LState) : Prop := LT Try.prog [.tmp 4] (pointN Try.f7 1) R [x0, x1, .junk, .junk, .junk, x5, x6, x7, .junk, .junk, .junk, .junk, .junk, .junk, .junk, .junk, .junk, .junk, .junk, .junk, .junk, .junk, .junk, .junk, .junk, .junk, .junk, .junk, .junk, .junk, .junk, .junk, .junk, .junk, .junk, .junk, .junk, .junk, .junk, .junk, .junk, .junk, .junk, .junk, .junk, .junk, .junk, .junk, .junk, .junk, .junk, .junk, .junk, .junk, .junk, .junk, .junk, .junk, .junk, .junk, .junk, .junk, .junk, .junk, .junk, .junk, .junk, .junk, .junk, .junk, .junk, .junk, .junk, .junk, .junk, .junk, .junk, .junk, .junk] st
/-- the place 4 of f7 -/
def P7_4 (x0 x1 x5 x6 x7 : LV) (R : LV → LState → Prop) (st : LState) : Prop := LT Try.prog [.tmp 4] (pointN Try.f7 4) R [x0, x1, .junk, .junk, .junk, x5, x6, x7, .junk, .junk, .junk, .junk, .junk, .junk, .junk, .junk, .junk, .junk, .junk, .junk, .junk, .junk, .junk, .junk, .junk, .junk, .junk, .junk, .junk, .junk, .junk, .junk, .junk, .junk, .junk, .junk, .junk, .junk, .junk, .junk, .junk, .junk, .junk, .junk, .junk, .junk, .junk, .junk, .junk, .junk, .junk, .junk, .junk, .junk, .junk, .junk, .junk, .junk, .junk, .junk, .junk, .junk, .junk, .junk, .junk, .junk, .junk, .junk, .junk, .junk, .junk, .junk, .junk, .junk, .junk, .junk, .junk, .junk, .junk] st
/-- the place 1 of f23 -/
def P23_1 (x0 x1 x5 : LV) (R : LV → LState → Prop) (st : LState) : Prop := LT Try.prog [.tmp 4] (pointN Try.f23 1) R [x0, x1, .junk, .junk, .junk, x5, .junk, .junk, .junk, .junk, .junk, .junk, .junk, .junk, .junk, .junk, .junk, .junk, .junk, .junk, .junk, .junk] st
/-- the place 1 of f24 -/
def P24_1 (x0 x1 x5 x6 : LV) (R : LV → LState → Prop) (st : LState) : Prop := LT Try.prog [.tmp 4] (pointN Try.f24 1) R [x0, x1, .junk, .junk, .junk, x5, x6, .junk, .junk, .junk, .junk, .junk, .junk, .junk, .junk, .junk, .junk, .junk, .junk, .junk, .junk, .junk, .junk, .junk, .junk, .junk, .junk, .junk, .junk, .junk, .junk, .junk, .junk] st
/-- the place 1 of f26 -/
def P26_1 (x0 x1 x5 : LV) (R : LV → LState → Prop) (st : LState) : Prop := LT Try.prog [.tmp 4] (pointN Try.f26 1) R [x0, x1, .junk, .junk, .junk, x5, .junk, .junk, .junk, .junk, .junk, .junk, .junk, .junk, .junk, .junk, .junk] st
/-- the place 1 of f32 -/
def P32_1 (x3 x4 x6 x16 x17 x18 x27 x28 x29 : LV) (R : LV → LState → Prop) (st : LState) : Prop := LT Try.prog [.tmp 2] (pointN Try.f32 1) R [.junk, .junk, .junk, x3, x4, .junk, x6, .junk, .junk, .junk, .junk, .junk, .junk, .junk, .junk, .junk, x16, x17, x18, .junk, .junk, .junk, .junk, .junk, .junk, .junk, .junk, x27, x28, x29, .junk, .junk, .junk, .junk, .junk, .junk, .junk, .junk, .junk, .junk, .junk, .junk, .junk] st
/-- the place 4 of f32 -/
def P32_4 (x3 x4 x6 x16 x17 x18 x27 x28 x29 : LV) (R : LV → LState → Prop) (st : LState) : Prop := LT Try.prog [.tmp 2] (pointN Try.f32 4) R [.junk, .junk, .junk, x3, x4, .junk, x6, .junk, .junk, .junk, .junk, .junk, .junk, .junk, .junk, .junk, x16, x17, x18, .junk, .junk, .junk, .junk, .junk, .junk, .junk, .junk, x27, x28, x29, .junk, .junk, .junk, .junk, .junk, .junk, .junk, .junk, .junk, .junk, .junk, .junk, .junk] st
/-- the place 1 of f34 -/
def P34_1 (x0 x5 x8 x9 x10 : LV) (R : LV → LState → Prop) (st : LState) : Prop := LT Try.prog [.tmp 4] (pointN Try.f34 1) R [x0, .junk, .junk, .junk, .junk, x5, .junk, .junk, x8, x9, x10, .junk, .junk, .junk, .junk, .junk, .junk, .junk, .junk, .junk, .junk, .junk, .junk, .junk, .junk, .junk, .junk, .junk] st
/-- the place 1 of f37 -/
def P37_1 (x0 x1 x2 x7 x8 : LV) (R : LV → LState → Prop) (st : LState) : Prop := LT Try.prog [.tmp 6] (pointN Try.f37 1) R [x0, x1, x2, .junk, .junk, .junk, .junk, x7, x8, .junk, .junk, .junk, .junk, .junk, .junk, .junk, .junk, .junk, .junk, .junk, .junk, .junk, .junk, .junk, .junk, .junk, .junk, .junk, .junk, .junk, .junk, .junk, .junk, .junk, .junk, .junk, .junk, .junk, .junk, .junk, .junk, .junk, .junk, .junk, .junk, .junk, .junk, .junk] st
/-- the place 1 of f46 -/
def P46_1 (x0 x1 x7 x8 : LV) (R : LV → LState → Prop) (st : LState) : Prop := LT Try.prog [.tmp 4] (pointN Try.f46 1) R [x0, x1, .junk, .junk, .junk, .junk, .junk, x7, x8, .junk, .junk, .junk, .junk, .junk, .junk, .junk, .junk, .junk, .junk] st

/-- flange.flangelaw11.MarkCleans -/
def w7 (a0 a1 : LV) (R : LV → LState → Prop) (st : LState) : Prop :=
  bd (lenStr a0) fun v0 =>
    bd (bInt BinOp.gtr v0 (LV.int IntKind.i64 300)) fun v1 =>
      bsel v1 (LCalls Try.prog 22 [] st fun v2 st3 => R v2 st3)
        (bd (lenSl a1) fun v4 =>
          bd (bInt BinOp.gtr v4 (LV.int IntKind.i64 20)) fun v5 =>
            bsel v5 (LCalls Try.prog 22 [] st fun v6 st7 => R v6 st7)
              (LCalls Try.prog 22 [] st fun v8 st9 =>
                bd (lun UnOp.not v8) fun v10 =>
                  bsel v10 (LCalls Try.prog 22 [] st9 fun v11 st12 => R v11 st12)
                    (P7_1 a0 a1 (LV.bool false) (LV.int IntKind.i64 0) (LV.tup []) R
                      st9)))
theorem w7_eq (a0 a1 : LV) (R : LV → LState → Prop) (st : LState) : levT Try.prog [.tmp 4] R [2, 3, 4, 8, 9, 10, 11, 12, 13, 14, 15, 16, 17, 18, 19, 20, 21, 22, 23, 24, 25, 26, 27, 28, 29, 30, 31, 32, 33, 34, 35, 36, 37, 38, 39, 40, 41, 42, 43, 44, 45, 46, 47, 48, 49, 50, 51, 52, 53, 54, 55, 56, 57, 58, 59, 60, 61, 62, 63, 64, 65, 66, 67, 68, 69, 70, 71, 72, 73, 74, 75, 76, 77, 78] [] 3000 [.code (bodyOf Try.f7)] ([a0, a1] ++ List.replicate (Try.f7.ntmps - 2) lundef) st = w7 a0 a1 R st := by kernel_rfl
theorem c7 (a0 a1 : LV) {R : LV → LState → Prop} {st : LState} (h : w7 a0 a1 R st) : LCalls Try.prog 7 [a0, a1] st R :=
  LCalls.of cm_mixed Try.func7 (show Try.f7.body = some (bodyOf Try.f7) by kernel_rfl) (by kernel_rfl) (show Try.f7.results.toList = [.tmp 4] by kernel_rfl) (levT_sound cm_mixed 3000 (Eq.mpr (w7_eq a0 a1 R st) h))

/-- flange.flangelaw11.MarkCleans, from point 1 on -/
def w7_1 (x0 x1 x5 x6 x7 : LV) (R : LV → LState → Prop) (st : LState) : Prop :=
  bd (lenSl x1) fun v0 =>
    bd (bInt BinOp.lss x6 v0) fun v1 =>
      bsel v1
        (bd (ixSl 1 x1 x6) fun v2 =>
          bd (ld1 st v2) fun v3 =>
            bd (lenStr v3) fun v4 =>
              bd (bInt BinOp.gtr v4 (LV.int IntKind.i64 100)) fun v5 =>
                bsel v5 (R (LV.bool true) st)
                  (P7_4 x0 x1 x5 x6 (LV.int IntKind.i64 0) R
                    st))
        (LCalls Try.prog 23 [x0, x1] st fun v6 st7 =>
          LCalls Try.prog 24 [x0, x1] st7 fun v8 st9 =>
            bd (bStr BinOp.eql v6 v8) fun v10 =>
              bsel v10
                (LCalls Try.prog 25 [x0, x1] st9 fun v11 st12 =>
                  LCalls Try.prog 26 [x0, x1] st12 fun v13 st14 =>
                    bd (bBool BinOp.eql v11 v13) fun v15 =>
                      bsel v15 (bsel x5 (R (LV.bool true) st14) (LCalls Try.prog 25 [v6, x1] st14 fun v16 st17 => bd (lun UnOp.not v16) fun v18 => R v18 st17))
                        (R (LV.bool false) st14))
                (R (LV.bool false) st9))
theorem w7_1_eq (x0 x1 x5 x6 x7 : LV) (R : LV → LState → Prop) (st : LState) : levT Try.prog [.tmp 4] R [2, 3, 4, 8, 9, 10, 11, 12, 13, 14, 15, 16, 17, 18, 19, 20, 21, 22, 23, 24, 25, 26, 27, 28, 29, 30, 31, 32, 33, 34, 35, 36, 37, 38, 39, 40, 41, 42, 43, 44, 45, 46, 47, 48, 49, 50, 51, 52, 53, 54, 55, 56, 57, 58, 59, 60, 61, 62, 63, 64, 65, 66, 67, 68, 69, 70, 71, 72, 73, 74, 75, 76, 77, 78] [] 3000 (stepIn (pointN Try.f7 1)) [x0, x1, .junk, .junk, .junk, x5, x6, x7, .junk, .junk, .junk, .junk, .junk, .junk, .junk, .junk, .junk, .junk, .junk, .junk, .junk, .junk, .junk, .junk, .junk, .junk, .junk, .junk, .junk, .junk, .junk, .junk, .junk, .junk, .junk, .junk, .junk, .junk, .junk, .junk, .junk, .junk, .junk, .junk, .junk, .junk, .junk, .junk, .junk, .junk, .junk, .junk, .junk, .junk, .junk, .junk, .junk, .junk, .junk, .junk, .junk, .junk, .junk, .junk, .junk, .junk, .junk, .junk, .junk, .junk, .junk, .junk, .junk, .junk, .junk, .junk, .junk, .junk, .junk] st = w7_1 x0 x1 x5 x6 x7 R st := by kernel_rfl
theorem p7_1 (x0 x1 x5 x6 x7 : LV) {R : LV → LState → Prop} {st : LState} (h : w7_1 x0 x1 x5 x6 x7 R st) : P7_1 x0 x1 x5 x6 x7 R st :=
  LT.at cm_mixed 3000 (Eq.mpr (w7_1_eq x0 x1 x5 x6 x7 R st) h)

/-- flange.flangelaw11.MarkCleans, from point 4 on -/
def w7_4 (x0 x1 x5 x6 x7 : LV) (R : LV → LState → Prop) (st : LState) : Prop :=
  bd (ixSl 1 x1 x6) fun v0 =>
    bd (ld1 st v0) fun v1 =>
      bd (lenStr v1) fun v2 =>
        bd (bInt BinOp.lss x7 v2) fun v3 =>
          bsel v3
            (bsel x5
              (bd (bInt BinOp.add x7 (LV.int IntKind.i64 1)) fun v4 =>
                P7_4 x0 x1 (LV.bool true) x6 v4 R
                  st)
              (bd (ixSl 1 x1 x6) fun v5 =>
                bd (ld1 st v5) fun v6 =>
                  bd (ixStr v6 x7) fun v7 =>
                    bd (bInt BinOp.eql v7 (LV.int IntKind.u8 42)) fun v8 =>
                      bd (bInt BinOp.add x7 (LV.int IntKind.i64 1)) fun v9 =>
                        P7_4 x0 x1 v8 x6 v9 R
                          st))
            (bd (bInt BinOp.add x6 (LV.int IntKind.i64 1)) fun v10 =>
              P7_1 x0 x1 x5 v10 x7 R
                st)
theorem w7_4_eq (x0 x1 x5 x6 x7 : LV) (R : LV → LState → Prop) (st : LState) : levT Try.prog [.tmp 4] R [2, 3, 4, 8, 9, 10, 11, 12, 13, 14, 15, 16, 17, 18, 19, 20, 21, 22, 23, 24, 25, 26, 27, 28, 29, 30, 31, 32, 33, 34, 35, 36, 37, 38, 39, 40, 41, 42, 43, 44, 45, 46, 47, 48, 49, 50, 51, 52, 53, 54, 55, 56, 57, 58, 59, 60, 61, 62, 63, 64, 65, 66, 67, 68, 69, 70, 71, 72, 73, 74, 75, 76, 77, 78] [] 3000 (stepIn (pointN Try.f7 4)) [x0, x1, .junk, .junk, .junk, x5, x6, x7, .junk, .junk, .junk, .junk, .junk, .junk, .junk, .junk, .junk, .junk, .junk, .junk, .junk, .junk, .junk, .junk, .junk, .junk, .junk, .junk, .junk, .junk, .junk, .junk, .junk, .junk, .junk, .junk, .junk, .junk, .junk, .junk, .junk, .junk, .junk, .junk, .junk, .junk, .junk, .junk, .junk, .junk, .junk, .junk, .junk, .junk, .junk, .junk, .junk, .junk, .junk, .junk, .junk, .junk, .junk, .junk, .junk, .junk, .junk, .junk, .junk, .junk, .junk, .junk, .junk, .junk, .junk, .junk, .junk, .junk, .junk] st = w7_4 x0 x1 x5 x6 x7 R st := by kernel_rfl
theorem p7_4 (x0 x1 x5 x6 x7 : LV) {R : LV → LState → Prop} {st : LState} (h : w7_4 x0 x1 x5 x6 x7 R st) : P7_4 x0 x1 x5 x6 x7 R st :=
  LT.at cm_mixed 3000 (Eq.mpr (w7_4_eq x0 x1 x5 x6 x7 R st) h)

/-- flange.flangelaw11.awake -/
def w22 (R : LV → LState → Prop) (st : LState) : Prop :=
  bd2 (slNew st 1 (lfill (fun i => some (i * 1, 1)) (List.replicate 1 [LV.str []]).flatten [(0, LV.str [112, 97, 115, 115, 49, 50, 51, 52])])) fun v0 st1 =>
    LCalls Try.prog 23 [LV.str [107, 101, 121, 32, 112, 97, 115, 115, 49, 50, 51, 52, 33], v0] st1 fun v2 st3 =>
      bd (bStr BinOp.eql v2 (LV.str [107, 101, 121, 32, 42, 42, 42, 33])) fun v4 =>
        bsel v4
          (bd2 (slNew st3 1 (lfill (fun i => some (i * 1, 1)) (List.replicate 1 [LV.str []]).flatten [(0, LV.str [112, 97, 115, 115, 49, 50, 51, 52])])) fun v5 st6 =>
            LCalls Try.prog 25 [LV.str [107, 101, 121, 32, 112, 97, 115, 115, 49, 50, 51, 52, 33], v5] st6 fun v7 st8 =>
              bsel v7
                (LCalls Try.prog 33 [] st8 fun v9 st10 =>
                  LCalls Try.prog 32 [v9] st10 fun v11 st12 => bd (lenSl v11) fun v13 => bd (bInt BinOp.eql v13 (LV.int IntKind.i64 1)) fun v14 => R v14 st12)
                (R (LV.bool false) st8))
          (R (LV.bool false) st3)
theorem w22_eq (R : LV → LState → Prop) (st : LState) : levT Try.prog [.tmp 0] R [] [] 3000 [.code (bodyOf Try.f22)] ([] ++ List.replicate (Try.f22.ntmps - 0) lundef) st = w22  R st := by kernel_rfl
theorem c22 {R : LV → LState → Prop} {st : LState} (h : w22  R st) : LCalls Try.prog 22 [] st R :=
  LCalls.of cm_mixed Try.func22 (show Try.f22.body = some (bodyOf Try.f22) by kernel_rfl) (by kernel_rfl) (show Try.f22.results.toList = [.tmp 0] by kernel_rfl) (levT_sound cm_mixed 3000 (Eq.mpr (w22_eq  R st) h))

/-- flange.mark.Clean -/
def w23 (a0 a1 : LV) (R : LV → LState → Prop) (st : LState) : Prop :=
  nwM (Md.bt 77) st [LV.nilp, LV.nils] fun v0 st1 =>
    P23_1 a0 a1 v0 R
      st1
theorem w23_eq (a0 a1 : LV) (R : LV → LState → Prop) (st : LState) : levT Try.prog [.tmp 4] R [2, 3, 4, 6, 7, 8, 9, 10, 11, 12, 13, 14, 15, 16, 17, 18, 19, 20, 21] [] 3000 [.code (bodyOf Try.f23)] ([a0, a1] ++ List.replicate (Try.f23.ntmps - 2) lundef) st = w23 a0 a1 R st := by kernel_rfl
theorem c23 (a0 a1 : LV) {R : LV → LState → Prop} {st : LState} (h : w23 a0 a1 R st) : LCalls Try.prog 23 [a0, a1] st R :=
  LCalls.of cm_mixed Try.func23 (show Try.f23.body = some (bodyOf Try.f23) by kernel_rfl) (by kernel_rfl) (show Try.f23.results.toList = [.tmp 4] by kernel_rfl) (levT_sound cm_mixed 3000 (Eq.mpr (w23_eq a0 a1 R st) h))

/-- flange.mark.Clean, from point 1 on -/
def w23_1 (x0 x1 x5 : LV) (R : LV → LState → Prop) (st : LState) : Prop :=
  bd (bStr BinOp.neq x0 (LV.str [])) fun v0 =>
    bsel v0
      (LCalls Try.prog 34 [x0, x1] st fun v1 st2 =>
        bd (bInt BinOp.gtr v1 (LV.int IntKind.i64 0)) fun v3 =>
          bsel v3
            (LCalls Try.prog 35 [x5, LV.str [42, 42, 42]] st2 fun _v4 st5 =>
              bd (ob3 (some v1) none none fun l h m => slStr x0 l h m) fun v6 =>
                P23_1 v6 x1 x5 R
                  st5)
            (bd (ob3 none (some (LV.int IntKind.i64 1)) none fun l h m => slStr x0 l h m) fun v7 =>
              LCalls Try.prog 35 [x5, v7] st2 fun _v8 st9 =>
                bd (ob3 (some (LV.int IntKind.i64 1)) none none fun l h m => slStr x0 l h m) fun v10 =>
                  P23_1 v10 x1 x5 R
                    st9))
      (LCalls Try.prog 36 [x5] st fun v11 st12 => R v11 st12)
theorem w23_1_eq (x0 x1 x5 : LV) (R : LV → LState → Prop) (st : LState) : levT Try.prog [.tmp 4] R [2, 3, 4, 6, 7, 8, 9, 10, 11, 12, 13, 14, 15, 16, 17, 18, 19, 20, 21] [] 3000 (stepIn (pointN Try.f23 1)) [x0, x1, .junk, .junk, .junk, x5, .junk, .junk, .junk, .junk, .junk, .junk, .junk, .junk, .junk, .junk, .junk, .junk, .junk, .junk, .junk, .junk] st = w23_1 x0 x1 x5 R st := by kernel_rfl
theorem p23_1 (x0 x1 x5 : LV) {R : LV → LState → Prop} {st : LState} (h : w23_1 x0 x1 x5 R st) : P23_1 x0 x1 x5 R st :=
  LT.at cm_mixed 3000 (Eq.mpr (w23_1_eq x0 x1 x5 R st) h)

/-- flange.flangeref11.Clean -/
def w24 (a0 a1 : LV) (R : LV → LState → Prop) (st : LState) : Prop :=
  P24_1 a0 a1 (LV.str []) (LV.int IntKind.i64 0) R
    st
theorem w24_eq (a0 a1 : LV) (R : LV → LState → Prop) (st : LState) : levT Try.prog [.tmp 4] R [2, 3, 4, 7, 8, 9, 10, 11, 12, 13, 14, 15, 16, 17, 18, 19, 20, 21, 22, 23, 24, 25, 26, 27, 28, 29, 30, 31, 32] [] 3000 [.code (bodyOf Try.f24)] ([a0, a1] ++ List.replicate (Try.f24.ntmps - 2) lundef) st = w24 a0 a1 R st := by kernel_rfl
theorem c24 (a0 a1 : LV) {R : LV → LState → Prop} {st : LState} (h : w24 a0 a1 R st) : LCalls Try.prog 24 [a0, a1] st R :=
  LCalls.of cm_mixed Try.func24 (show Try.f24.body = some (bodyOf Try.f24) by kernel_rfl) (by kernel_rfl) (show Try.f24.results.toList = [.tmp 4] by kernel_rfl) (levT_sound cm_mixed 3000 (Eq.mpr (w24_eq a0 a1 R st) h))

/-- flange.flangeref11.Clean, from point 1 on -/
def w24_1 (x0 x1 x5 x6 : LV) (R : LV → LState → Prop) (st : LState) : Prop :=
  bd (lenStr x0) fun v0 =>
    bd (bInt BinOp.lss x6 v0) fun v1 =>
      bsel v1
        (LCalls Try.prog 37 [x0, x6, x1] st fun v2 st3 =>
          bd (bInt BinOp.gtr v2 (LV.int IntKind.i64 0)) fun v4 =>
            bsel v4
              (bd (bStr BinOp.add x5 (LV.str [42, 42, 42])) fun v5 =>
                bd (bInt BinOp.add x6 v2) fun v6 =>
                  P24_1 x0 x1 v5 v6 R
                    st3)
              (bd (bInt BinOp.add x6 (LV.int IntKind.i64 1)) fun v7 =>
                bd (ob3 (some x6) (some v7) none fun l h m => slStr x0 l h m) fun v8 =>
                  bd (bStr BinOp.add x5 v8) fun v9 =>
                    bd (bInt BinOp.add x6 (LV.int IntKind.i64 1)) fun v10 =>
                      P24_1 x0 x1 v9 v10 R
                        st3))
        (R x5 st)
theorem w24_1_eq (x0 x1 x5 x6 : LV) (R : LV → LState → Prop) (st : LState) : levT Try.prog [.tmp 4] R [2, 3, 4, 7, 8, 9, 10, 11, 12, 13, 14, 15, 16, 17, 18, 19, 20, 21, 22, 23, 24, 25, 26, 27, 28, 29, 30, 31, 32] [] 3000 (stepIn (pointN Try.f24 1)) [x0, x1, .junk, .junk, .junk, x5, x6, .junk, .junk, .junk, .junk, .junk, .junk, .junk, .junk, .junk, .junk, .junk, .junk, .junk, .junk, .junk, .junk, .junk, .junk, .junk, .junk, .junk, .junk, .junk, .junk, .junk, .junk] st = w24_1 x0 x1 x5 x6 R st := by kernel_rfl
theorem p24_1 (x0 x1 x5 x6 : LV) {R : LV → LState → Prop} {st : LState} (h : w24_1 x0 x1 x5 x6 R st) : P24_1 x0 x1 x5 x6 R st :=
  LT.at cm_mixed 3000 (Eq.mpr (w24_1_eq x0 x1 x5 x6 R st) h)

/-- flange.mark.Leaks -/
def w25 (a0 a1 : LV) (R : LV → LState → Prop) (st : LState) : Prop :=
  bd2 (lbox st a0) fun v0 st1 => LCalls Try.prog 38 [a1, LV.fn (Fn.func 39) [] [v0]] st1 fun v2 st3 => R v2 st3
theorem w25_eq (a0 a1 : LV) (R : LV → LState → Prop) (st : LState) : levT Try.prog [.tmp 4] R [] [] 3000 [.code (bodyOf Try.f25)] ([a0, a1] ++ List.replicate (Try.f25.ntmps - 2) lundef) st = w25 a0 a1 R st := by kernel_rfl
theorem c25 (a0 a1 : LV) {R : LV → LState → Prop} {st : LState} (h : w25 a0 a1 R st) : LCalls Try.prog 25 [a0, a1] st R :=
  LCalls.of cm_mixed Try.func25 (show Try.f25.body = some (bodyOf Try.f25) by kernel_rfl) (by kernel_rfl) (show Try.f25.results.toList = [.tmp 4] by kernel_rfl) (levT_sound cm_mixed 3000 (Eq.mpr (w25_eq a0 a1 R st) h))

/-- flange.flangeref11.Leaks -/
def w26 (a0 a1 : LV) (R : LV → LState → Prop) (st : LState) : Prop :=
  P26_1 a0 a1 (LV.int IntKind.i64 0) R st
theorem w26_eq (a0 a1 : LV) (R : LV → LState → Prop) (st : LState) : levT Try.prog [.tmp 4] R [2, 3, 4, 6, 7, 8, 9, 10, 11, 12, 13, 14, 15, 16] [] 3000 [.code (bodyOf Try.f26)] ([a0, a1] ++ List.replicate (Try.f26.ntmps - 2) lundef) st = w26 a0 a1 R st := by kernel_rfl
theorem c26 (a0 a1 : LV) {R : LV → LState → Prop} {st : LState} (h : w26 a0 a1 R st) : LCalls Try.prog 26 [a0, a1] st R :=
  LCalls.of cm_mixed Try.func26 (show Try.f26.body = some (bodyOf Try.f26) by kernel_rfl) (by kernel_rfl) (show Try.f26.results.toList = [.tmp 4] by kernel_rfl) (levT_sound cm_mixed 3000 (Eq.mpr (w26_eq a0 a1 R st) h))

/-- flange.flangeref11.Leaks, from point 1 on -/
def w26_1 (x0 x1 x5 : LV) (R : LV → LState → Prop) (st : LState) : Prop :=
  bd (lenStr x0) fun v0 =>
    bd (bInt BinOp.lss x5 v0) fun v1 =>
      bsel v1
        (LCalls Try.prog 37 [x0, x5, x1] st fun v2 st3 =>
          bd (bInt BinOp.gtr v2 (LV.int IntKind.i64 0)) fun v4 =>
            bsel v4 (R (LV.bool true) st3)
              (bd (bInt BinOp.add x5 (LV.int IntKind.i64 1)) fun v5 =>
                P26_1 x0 x1 v5 R st3))
        (R (LV.bool false) st)
theorem w26_1_eq (x0 x1 x5 : LV) (R : LV → LState → Prop) (st : LState) : levT Try.prog [.tmp 4] R [2, 3, 4, 6, 7, 8, 9, 10, 11, 12, 13, 14, 15, 16] [] 3000 (stepIn (pointN Try.f26 1)) [x0, x1, .junk, .junk, .junk, x5, .junk, .junk, .junk, .junk, .junk, .junk, .junk, .junk, .junk, .junk, .junk] st = w26_1 x0 x1 x5 R st := by kernel_rfl
theorem p26_1 (x0 x1 x5 : LV) {R : LV → LState → Prop} {st : LState} (h : w26_1 x0 x1 x5 R st) : P26_1 x0 x1 x5 R st :=
  LT.at cm_mixed 3000 (Eq.mpr (w26_1_eq x0 x1 x5 R st) h)

/-- flange.mark.Unknown -/
def w32 (a0 : LV) (R : LV → LState → Prop) (st : LState) : Prop :=
  bd2 (lbox st a0) fun v0 st1 =>
    bd (ldA st1 v0 1) fun v2 =>
      LCalls Try.prog 41 [v2] st1 fun v3 st4 =>
        bd (bInt BinOp.eql v3 (LV.int IntKind.i64 1)) fun v5 =>
          bsel v5 (bd2 (slNew st4 1 (lfill (fun i => some (i * 1, 1)) (List.replicate 1 [LV.nils]).flatten [(0, LV.nils)])) fun v6 st7 => R v6 st7)
            (bd (ldA st4 v0 1) fun v8 =>
              LCalls Try.prog 42 [v8] st4 fun v9 st10 =>
                bd (ldA st10 v0 1) fun v11 =>
                  LCalls Try.prog 43 [v11] st10 fun v12 st13 =>
                    bd (lenSl v12) fun v14 =>
                      P32_1 LV.nils v9 (LV.tup []) v12 v14 (LV.int IntKind.i64 0) (LV.tup []) (LV.tup []) (LV.tup []) R
                        st13)
theorem w32_eq (a0 : LV) (R : LV → LState → Prop) (st : LState) : levT Try.prog [.tmp 2] R [0, 1, 2, 5, 7, 8, 9, 10, 11, 12, 13, 14, 15, 19, 20, 21, 22, 23, 24, 25, 26, 30, 31, 32, 33, 34, 35, 36, 37, 38, 39, 40, 41, 42] [] 3000 [.code (bodyOf Try.f32)] ([a0] ++ List.replicate (Try.f32.ntmps - 1) lundef) st = w32 a0 R st := by kernel_rfl
theorem c32 (a0 : LV) {R : LV → LState → Prop} {st : LState} (h : w32 a0 R st) : LCalls Try.prog 32 [a0] st R :=
  LCalls.of cm_mixed Try.func32 (show Try.f32.body = some (bodyOf Try.f32) by kernel_rfl) (by kernel_rfl) (show Try.f32.results.toList = [.tmp 2] by kernel_rfl) (levT_sound cm_mixed 3000 (Eq.mpr (w32_eq a0 R st) h))

/-- flange.mark.Unknown, from point 1 on -/
def w32_1 (x3 x4 x6 x16 x17 x18 x27 x28 x29 : LV) (R : LV → LState → Prop) (st : LState) : Prop :=
  bd (bInt BinOp.lss x18 x17) fun v0 =>
    bsel v0
      (bd (ixSl 2 x16 x18) fun v1 =>
        bd (ldA st v1 2) fun v2 =>
          nw st [LV.str [], LV.int IntKind.i64 0] fun v3 st4 =>
            bd2 (lmk (stV st4 2 v3 v2)) fun _v5 st6 =>
              bd (ixSl 1 x4 x18) fun v7 =>
                bd (ldA st6 v7 1) fun v8 =>
                  LCalls Try.prog 32 [v8] st6 fun v9 st10 =>
                    bd (lenSl v9) fun v11 =>
                      P32_4 x3 x4 v3 x16 x17 x18 v9 v11 (LV.int IntKind.i64 0) R
                        st10)
      (R x3 st)
theorem w32_1_eq (x3 x4 x6 x16 x17 x18 x27 x28 x29 : LV) (R : LV → LState → Prop) (st : LState) : levT Try.prog [.tmp 2] R [0, 1, 2, 5, 7, 8, 9, 10, 11, 12, 13, 14, 15, 19, 20, 21, 22, 23, 24, 25, 26, 30, 31, 32, 33, 34, 35, 36, 37, 38, 39, 40, 41, 42] [] 3000 (stepIn (pointN Try.f32 1)) [.junk, .junk, .junk, x3, x4, .junk, x6, .junk, .junk, .junk, .junk, .junk, .junk, .junk, .junk, .junk, x16, x17, x18, .junk, .junk, .junk, .junk, .junk, .junk, .junk, .junk, x27, x28, x29, .junk, .junk, .junk, .junk, .junk, .junk, .junk, .junk, .junk, .junk, .junk, .junk, .junk] st = w32_1 x3 x4 x6 x16 x17 x18 x27 x28 x29 R st := by kernel_rfl
theorem p32_1 (x3 x4 x6 x16 x17 x18 x27 x28 x29 : LV) {R : LV → LState → Prop} {st : LState} (h : w32_1 x3 x4 x6 x16 x17 x18 x27 x28 x29 R st) : P32_1 x3 x4 x6 x16 x17 x18 x27 x28 x29 R st :=
  LT.at cm_mixed 3000 (Eq.mpr (w32_1_eq x3 x4 x6 x16 x17 x18 x27 x28 x29 R st) h)

/-- flange.mark.Unknown, from point 4 on -/
def w32_4 (x3 x4 x6 x16 x17 x18 x27 x28 x29 : LV) (R : LV → LState → Prop) (st : LState) : Prop :=
  bd (bInt BinOp.lss x29 x28) fun v0 =>
    bsel v0
      (bd (ixSl 1 x27 x29) fun v1 =>
        bd (ld1 st v1) fun v2 =>
          bd (ldA st x6 2) fun v3 =>
            bd2 (slNew st 1 (lfill (fun i => some (i * 2, 2)) (List.replicate 1 [LV.str [], LV.int IntKind.i64 0]).flatten [(0, v3)])) fun v4 st5 =>
              bd2 (lappend st5 2 24 Md.rw v4 v2) fun v6 st7 =>
                bd2 (slNew st7 1 (lfill (fun i => some (i * 1, 1)) (List.replicate 1 [LV.nils]).flatten [(0, v6)])) fun v8 st9 =>
                  bd2 (lappend st9 1 24 Md.rw x3 v8) fun v10 st11 =>
                    bd (bInt BinOp.add x29 (LV.int IntKind.i64 1)) fun v12 =>
                      P32_4 v10 x4 x6 x16 x17 x18 x27 x28 v12 R
                        st11)
      (bd (bInt BinOp.add x18 (LV.int IntKind.i64 1)) fun v13 =>
        P32_1 x3 x4 x6 x16 x17 v13 x27 x28 x29 R
          st)
theorem w32_4_eq (x3 x4 x6 x16 x17 x18 x27 x28 x29 : LV) (R : LV → LState → Prop) (st : LState) : levT Try.prog [.tmp 2] R [0, 1, 2, 5, 7, 8, 9, 10, 11, 12, 13, 14, 15, 19, 20, 21, 22, 23, 24, 25, 26, 30, 31, 32, 33, 34, 35, 36, 37, 38, 39, 40, 41, 42] [] 3000 (stepIn (pointN Try.f32 4)) [.junk, .junk, .junk, x3, x4, .junk, x6, .junk, .junk, .junk, .junk, .junk, .junk, .junk, .junk, .junk, x16, x17, x18, .junk, .junk, .junk, .junk, .junk, .junk, .junk, .junk, x27, x28, x29, .junk, .junk, .junk, .junk, .junk, .junk, .junk, .junk, .junk, .junk, .junk, .junk, .junk] st = w32_4 x3 x4 x6 x16 x17 x18 x27 x28 x29 R st := by kernel_rfl
theorem p32_4 (x3 x4 x6 x16 x17 x18 x27 x28 x29 : LV) {R : LV → LState → Prop} {st : LState} (h : w32_4 x3 x4 x6 x16 x17 x18 x27 x28 x29 R st) : P32_4 x3 x4 x6 x16 x17 x18 x27 x28 x29 R st :=
  LT.at cm_mixed 3000 (Eq.mpr (w32_4_eq x3 x4 x6 x16 x17 x18 x27 x28 x29 R st) h)

/-- flange.value.Later -/
def w33 (R : LV → LState → Prop) (st : LState) : Prop :=
  nw st [LV.nili] fun v0 st1 =>
    bd (mkAgg (lfill (placesL []) [] [])) fun v2 =>
      bd (mkAgg (lfill (placesL [(0, 1)]) [LV.nili] [(0, LV.iface 95 v2)])) fun v3 => bd2 (lmk (stV st1 1 v0 v3)) fun _v4 st5 => bd (ldA st5 v0 1) fun v6 => R v6 st5
theorem w33_eq (R : LV → LState → Prop) (st : LState) : levT Try.prog [.cell 0 72] R [] [] 3000 [.code (bodyOf Try.f33)] ([] ++ List.replicate (Try.f33.ntmps - 0) lundef) st = w33  R st := by kernel_rfl
theorem c33 {R : LV → LState → Prop} {st : LState} (h : w33  R st) : LCalls Try.prog 33 [] st R :=
  LCalls.of cm_mixed Try.func33 (show Try.f33.body = some (bodyOf Try.f33) by kernel_rfl) (by kernel_rfl) (show Try.f33.results.toList = [.cell 0 72] by kernel_rfl) (levT_sound cm_mixed 3000 (Eq.mpr (w33_eq  R st) h))

/-- flange.mark.begins -/
def w34 (a0 a1 : LV) (R : LV → LState → Prop) (st : LState) : Prop :=
  bd (lenSl a1) fun v0 =>
    P34_1 a0 (LV.int IntKind.i64 0) a1 v0 (LV.int IntKind.i64 0) R
      st
theorem w34_eq (a0 a1 : LV) (R : LV → LState → Prop) (st : LState) : levT Try.prog [.tmp 4] R [1, 2, 3, 4, 6, 7, 11, 12, 13, 14, 15, 16, 17, 18, 19, 20, 21, 22, 23, 24, 25, 26, 27] [] 3000 [.code (bodyOf Try.f34)] ([a0, a1] ++ List.replicate (Try.f34.ntmps - 2) lundef) st = w34 a0 a1 R st := by kernel_rfl
theorem c34 (a0 a1 : LV) {R : LV → LState → Prop} {st : LState} (h : w34 a0 a1 R st) : LCalls Try.prog 34 [a0, a1] st R :=
  LCalls.of cm_mixed Try.func34 (show Try.f34.body = some (bodyOf Try.f34) by kernel_rfl) (by kernel_rfl) (show Try.f34.results.toList = [.tmp 4] by kernel_rfl) (levT_sound cm_mixed 3000 (Eq.mpr (w34_eq a0 a1 R st) h))

/-- flange.mark.begins, from point 1 on -/
def w34_1 (x0 x5 x8 x9 x10 : LV) (R : LV → LState → Prop) (st : LState) : Prop :=
  bd (bInt BinOp.lss x10 x9) fun v0 =>
    bsel v0
      (bd (ixSl 1 x8 x10) fun v1 =>
        bd (ld1 st v1) fun v2 =>
          bd (lenStr v2) fun v3 =>
            bd (bInt BinOp.geq v3 (LV.int IntKind.i64 4)) fun v4 =>
              bsel v4
                (LCalls Try.prog 44 [x0, v2] st fun v5 st6 =>
                  bsel v5
                    (bd (lenStr v2) fun v7 =>
                      bd (lmaxs [x5, v7]) fun v8 =>
                        bd (bInt BinOp.add x10 (LV.int IntKind.i64 1)) fun v9 =>
                          P34_1 x0 v8 x8 x9 v9 R
                            st6)
                    (bd (bInt BinOp.add x10 (LV.int IntKind.i64 1)) fun v10 =>
                      P34_1 x0 x5 x8 x9 v10 R
                        st6))
                (bd (bInt BinOp.add x10 (LV.int IntKind.i64 1)) fun v11 =>
                  P34_1 x0 x5 x8 x9 v11 R
                    st))
      (R x5 st)
theorem w34_1_eq (x0 x5 x8 x9 x10 : LV) (R : LV → LState → Prop) (st : LState) : levT Try.prog [.tmp 4] R [1, 2, 3, 4, 6, 7, 11, 12, 13, 14, 15, 16, 17, 18, 19, 20, 21, 22, 23, 24, 25, 26, 27] [] 3000 (stepIn (pointN Try.f34 1)) [x0, .junk, .junk, .junk, .junk, x5, .junk, .junk, x8, x9, x10, .junk, .junk, .junk, .junk, .junk, .junk, .junk, .junk, .junk, .junk, .junk, .junk, .junk, .junk, .junk, .junk, .junk] st = w34_1 x0 x5 x8 x9 x10 R st := by kernel_rfl
theorem p34_1 (x0 x5 x8 x9 x10 : LV) {R : LV → LState → Prop} {st : LState} (h : w34_1 x0 x5 x8 x9 x10 R st) : P34_1 x0 x5 x8 x9 x10 R st :=
  LT.at cm_mixed 3000 (Eq.mpr (w34_1_eq x0 x5 x8 x9 x10 R st) h)

/-- (*strings.Builder).WriteString -/
def w35 (a0 a1 : LV) (R : LV → LState → Prop) (st : LState) : Prop :=
  LCalls Try.prog 45 [a0] st fun _v0 st1 =>
    bd (lnilCheck a0) fun v2 =>
      bd (fAddr 1 v2) fun v3 =>
        bd (ld1 st1 v3) fun v4 =>
          bd2 (lappend st1 1 1 (Md.bt 5) v4 a1) fun v5 st6 =>
            bd (lnilCheck a0) fun v7 => bd (fAddr 1 v7) fun v8 => bd2 (lmk (stV st6 1 v8 v5)) fun _v9 st10 => bd (lenStr a1) fun v11 => R (LV.tup [v11, LV.nili]) st10
theorem w35_eq (a0 a1 : LV) (R : LV → LState → Prop) (st : LState) : levT Try.prog [.tmp 4, .tmp 5] R [] [] 3000 [.code (bodyOf Try.f35)] ([a0, a1] ++ List.replicate (Try.f35.ntmps - 2) lundef) st = w35 a0 a1 R st := by kernel_rfl
theorem c35 (a0 a1 : LV) {R : LV → LState → Prop} {st : LState} (h : w35 a0 a1 R st) : LCalls Try.prog 35 [a0, a1] st R :=
  LCalls.of cm_mixed Try.func35 (show Try.f35.body = some (bodyOf Try.f35) by kernel_rfl) (by kernel_rfl) (show Try.f35.results.toList = [.tmp 4, .tmp 5] by kernel_rfl) (levT_sound cm_mixed 3000 (Eq.mpr (w35_eq a0 a1 R st) h))

/-- (*strings.Builder).String -/
def w36 (a0 : LV) (R : LV → LState → Prop) (st : LState) : Prop :=
  bd (lnilCheck a0) fun v0 =>
    bd (fAddr 1 v0) fun v1 =>
      bd (ld1 st v1) fun v2 =>
        bd
          (lopA
            Try.prog
            [a0, LV.tup [], LV.str [], a0, v0, v1, v2, LV.tup [], LV.tup [], LV.tup [], LV.tup [], LV.tup [], LV.tup [], LV.tup []]
            (Op.call { callee := Callee.builtin Builtin.unsafeSliceData, args := { toList := [Operand.tmp 6] }, argTypes := { toList := [75] } }))
          fun v3 => bd (lnilCheck a0) fun v4 => bd (fAddr 1 v4) fun v5 => bd (ld1 st v5) fun v6 => bd (lenSl v6) fun v7 => bd2 (luStr st 5 v3 v7) fun v8 st9 => R v8 st9
theorem w36_eq (a0 : LV) (R : LV → LState → Prop) (st : LState) : levT Try.prog [.tmp 2] R [] [] 3000 [.code (bodyOf Try.f36)] ([a0] ++ List.replicate (Try.f36.ntmps - 1) lundef) st = w36 a0 R st := by kernel_rfl
theorem c36 (a0 : LV) {R : LV → LState → Prop} {st : LState} (h : w36 a0 R st) : LCalls Try.prog 36 [a0] st R :=
  LCalls.of cm_mixed Try.func36 (show Try.f36.body = some (bodyOf Try.f36) by kernel_rfl) (by kernel_rfl) (show Try.f36.results.toList = [.tmp 2] by kernel_rfl) (levT_sound cm_mixed 3000 (Eq.mpr (w36_eq a0 R st) h))

/-- flange.flangeref11.longest -/
def w37 (a0 a1 a2 : LV) (R : LV → LState → Prop) (st : LState) : Prop :=
  P37_1 a0 a1 a2 (LV.int IntKind.i64 0) (LV.int IntKind.i64 0) R
    st
theorem w37_eq (a0 a1 a2 : LV) (R : LV → LState → Prop) (st : LState) : levT Try.prog [.tmp 6] R [3, 4, 5, 6, 9, 10, 11, 12, 13, 14, 15, 16, 17, 18, 19, 20, 21, 22, 23, 24, 25, 26, 27, 28, 29, 30, 31, 32, 33, 34, 35, 36, 37, 38, 39, 40, 41, 42, 43, 44, 45, 46, 47] [] 3000 [.code (bodyOf Try.f37)] ([a0, a1, a2] ++ List.replicate (Try.f37.ntmps - 3) lundef) st = w37 a0 a1 a2 R st := by kernel_rfl
theorem c37 (a0 a1 a2 : LV) {R : LV → LState → Prop} {st : LState} (h : w37 a0 a1 a2 R st) : LCalls Try.prog 37 [a0, a1, a2] st R :=
  LCalls.of cm_mixed Try.func37 (show Try.f37.body = some (bodyOf Try.f37) by kernel_rfl) (by kernel_rfl) (show Try.f37.results.toList = [.tmp 6] by kernel_rfl) (levT_sound cm_mixed 3000 (Eq.mpr (w37_eq a0 a1 a2 R st) h))

/-- flange.flangeref11.longest, from point 1 on -/
def w37_1 (x0 x1 x2 x7 x8 : LV) (R : LV → LState → Prop) (st : LState) : Prop :=
  bd (lenSl x2) fun v0 =>
    bd (bInt BinOp.lss x8 v0) fun v1 =>
      bsel v1
        (bd (ixSl 1 x2 x8) fun v2 =>
          bd (ld1 st v2) fun v3 =>
            bd (lenStr v3) fun v4 =>
              bd (bInt BinOp.geq v4 (LV.int IntKind.i64 4)) fun v5 =>
                bsel v5
                  (bd (bInt BinOp.add x1 v4) fun v6 =>
                    bd (lenStr x0) fun v7 =>
                      bd (bInt BinOp.leq v6 v7) fun v8 =>
                        bsel v8
                          (bd (bInt BinOp.add x1 v4) fun v9 =>
                            bd (ob3 (some x1) (some v9) none fun l h m => slStr x0 l h m) fun v10 =>
                              bd (ixSl 1 x2 x8) fun v11 =>
                                bd (ld1 st v11) fun v12 =>
                                  bd (bStr BinOp.eql v10 v12) fun v13 =>
                                    bsel v13
                                      (bd (lmaxs [x7, v4]) fun v14 =>
                                        bd (bInt BinOp.add x8 (LV.int IntKind.i64 1)) fun v15 =>
                                          P37_1 x0 x1 x2 v14 v15 R
                                            st)
                                      (bd (bInt BinOp.add x8 (LV.int IntKind.i64 1)) fun v16 =>
                                        P37_1 x0 x1 x2 x7 v16 R
                                          st))
                          (bd (bInt BinOp.add x8 (LV.int IntKind.i64 1)) fun v17 =>
                            P37_1 x0 x1 x2 x7 v17 R
                              st))
                  (bd (bInt BinOp.add x8 (LV.int IntKind.i64 1)) fun v18 =>
                    P37_1 x0 x1 x2 x7 v18 R
                      st))
        (R x7 st)
theorem w37_1_eq (x0 x1 x2 x7 x8 : LV) (R : LV → LState → Prop) (st : LState) : levT Try.prog [.tmp 6] R [3, 4, 5, 6, 9, 10, 11, 12, 13, 14, 15, 16, 17, 18, 19, 20, 21, 22, 23, 24, 25, 26, 27, 28, 29, 30, 31, 32, 33, 34, 35, 36, 37, 38, 39, 40, 41, 42, 43, 44, 45, 46, 47] [] 3000 (stepIn (pointN Try.f37 1)) [x0, x1, x2, .junk, .junk, .junk, .junk, x7, x8, .junk, .junk, .junk, .junk, .junk, .junk, .junk, .junk, .junk, .junk, .junk, .junk, .junk, .junk, .junk, .junk, .junk, .junk, .junk, .junk, .junk, .junk, .junk, .junk, .junk, .junk, .junk, .junk, .junk, .junk, .junk, .junk, .junk, .junk, .junk, .junk, .junk, .junk, .junk] st = w37_1 x0 x1 x2 x7 x8 R st := by kernel_rfl
theorem p37_1 (x0 x1 x2 x7 x8 : LV) {R : LV → LState → Prop} {st : LState} (h : w37_1 x0 x1 x2 x7 x8 R st) : P37_1 x0 x1 x2 x7 x8 R st :=
  LT.at cm_mixed 3000 (Eq.mpr (w37_1_eq x0 x1 x2 x7 x8 R st) h)

/-- slices.ContainsFunc[[]string,string] -/
def w38 (a0 a1 : LV) (R : LV → LState → Prop) (st : LState) : Prop :=
  LCalls Try.prog 46 [a0, a1] st fun v0 st1 => bd (bInt BinOp.geq v0 (LV.int IntKind.i64 0)) fun v2 => R v2 st1
theorem w38_eq (a0 a1 : LV) (R : LV → LState → Prop) (st : LState) : levT Try.prog [.tmp 4] R [] [] 3000 [.code (bodyOf Try.f38)] ([a0, a1] ++ List.replicate (Try.f38.ntmps - 2) lundef) st = w38 a0 a1 R st := by kernel_rfl
theorem c38 (a0 a1 : LV) {R : LV → LState → Prop} {st : LState} (h : w38 a0 a1 R st) : LCalls Try.prog 38 [a0, a1] st R :=
  LCalls.of cm_mixed Try.func38 (show Try.f38.body = some (bodyOf Try.f38) by kernel_rfl) (by kernel_rfl) (show Try.f38.results.toList = [.tmp 4] by kernel_rfl) (levT_sound cm_mixed 3000 (Eq.mpr (w38_eq a0 a1 R st) h))

/-- flange.mark.Leaks$1 -/
def w39 (a0 a1 : LV) (R : LV → LState → Prop) (st : LState) : Prop :=
  bd (lenStr a0) fun v0 =>
    bd (bInt BinOp.geq v0 (LV.int IntKind.i64 4)) fun v1 => bsel v1 (bd (ld1 st a1) fun v2 => LCalls Try.prog 40 [v2, a0] st fun v3 st4 => R v3 st4) (R (LV.bool false) st)
theorem w39_eq (a0 a1 : LV) (R : LV → LState → Prop) (st : LState) : levT Try.prog [.tmp 3] R [] [] 3000 [.code (bodyOf Try.f39)] ([a0, a1] ++ List.replicate (Try.f39.ntmps - 2) lundef) st = w39 a0 a1 R st := by kernel_rfl
theorem c39 (a0 a1 : LV) {R : LV → LState → Prop} {st : LState} (h : w39 a0 a1 R st) : LCalls Try.prog 39 [a0, a1] st R :=
  LCalls.of cm_mixed Try.func39 (show Try.f39.body = some (bodyOf Try.f39) by kernel_rfl) (by kernel_rfl) (show Try.f39.results.toList = [.tmp 3] by kernel_rfl) (levT_sound cm_mixed 3000 (Eq.mpr (w39_eq a0 a1 R st) h))

/-- strings.HasPrefix -/
def w44 (a0 a1 : LV) (R : LV → LState → Prop) (st : LState) : Prop :=
  LCalls Try.prog 50 [a0, a1] st fun v0 st1 => R v0 st1
theorem w44_eq (a0 a1 : LV) (R : LV → LState → Prop) (st : LState) : levT Try.prog [.tmp 4] R [] [] 3000 [.code (bodyOf Try.f44)] ([a0, a1] ++ List.replicate (Try.f44.ntmps - 2) lundef) st = w44 a0 a1 R st := by kernel_rfl
theorem c44 (a0 a1 : LV) {R : LV → LState → Prop} {st : LState} (h : w44 a0 a1 R st) : LCalls Try.prog 44 [a0, a1] st R :=
  LCalls.of cm_mixed Try.func44 (show Try.f44.body = some (bodyOf Try.f44) by kernel_rfl) (by kernel_rfl) (show Try.f44.results.toList = [.tmp 4] by kernel_rfl) (levT_sound cm_mixed 3000 (Eq.mpr (w44_eq a0 a1 R st) h))

/-- (*strings.Builder).copyCheck -/
def w45 (a0 : LV) (R : LV → LState → Prop) (st : LState) : Prop :=
  bd (lnilCheck a0) fun v0 =>
    bd (fAddr 0 v0) fun v1 =>
      bd (ld1 st v1) fun v2 =>
        bd (eqB BinOp.eql (eqPtr true v2 LV.nilp)) fun v3 =>
          bsel v3
            (bd (cvUp st a0) fun v4 =>
              LCalls Try.prog 51 [v4] st fun v5 st6 =>
                bd (cvPu st6 77 2 v5) fun v7 => bd (lnilCheck a0) fun v8 => bd (fAddr 0 v8) fun v9 => bd2 (lmk (stV st6 1 v9 v7)) fun _v10 st11 => R (LV.tup []) st11)
            (bd (lnilCheck a0) fun v12 => bd (fAddr 0 v12) fun v13 => bd (ld1 st v13) fun v14 => bd (eqB BinOp.neq (eqPtr true v14 a0)) fun v15 => bsel v15 False (R (LV.tup []) st))
theorem w45_eq (a0 : LV) (R : LV → LState → Prop) (st : LState) : levT Try.prog [] R [] [] 3000 [.code (bodyOf Try.f45)] ([a0] ++ List.replicate (Try.f45.ntmps - 1) lundef) st = w45 a0 R st := by kernel_rfl
theorem c45 (a0 : LV) {R : LV → LState → Prop} {st : LState} (h : w45 a0 R st) : LCalls Try.prog 45 [a0] st R :=
  LCalls.of cm_mixed Try.func45 (show Try.f45.body = some (bodyOf Try.f45) by kernel_rfl) (by kernel_rfl) (show Try.f45.results.toList = [] by kernel_rfl) (levT_sound cm_mixed 3000 (Eq.mpr (w45_eq a0 R st) h))

/-- slices.IndexFunc[[]string,string] -/
def w46 (a0 a1 : LV) (R : LV → LState → Prop) (st : LState) : Prop :=
  bd (lenSl a0) fun v0 =>
    P46_1 a0 a1 v0 (LV.int IntKind.i64 0) R st
theorem w46_eq (a0 a1 : LV) (R : LV → LState → Prop) (st : LState) : levT Try.prog [.tmp 4] R [2, 3, 4, 5, 6, 9, 10, 11, 12, 13, 14, 15, 16, 17, 18] [] 3000 [.code (bodyOf Try.f46)] ([a0, a1] ++ List.replicate (Try.f46.ntmps - 2) lundef) st = w46 a0 a1 R st := by kernel_rfl
theorem c46 (a0 a1 : LV) {R : LV → LState → Prop} {st : LState} (h : w46 a0 a1 R st) : LCalls Try.prog 46 [a0, a1] st R :=
  LCalls.of cm_mixed Try.func46 (show Try.f46.body = some (bodyOf Try.f46) by kernel_rfl) (by kernel_rfl) (show Try.f46.results.toList = [.tmp 4] by kernel_rfl) (levT_sound cm_mixed 3000 (Eq.mpr (w46_eq a0 a1 R st) h))

/-- slices.IndexFunc[[]string,string], from point 1 on -/
def w46_1 (x0 x1 x7 x8 : LV) (R : LV → LState → Prop) (st : LState) : Prop :=
  bd (bInt BinOp.lss x8 x7) fun v0 =>
    bsel v0
      (bd (ixSl 1 x0 x8) fun v1 =>
        bd (ld1 st v1) fun v2 =>
          bd2 (lclo x1 [v2]) fun f3 xs4 =>
            LCalls Try.prog f3 xs4 st fun v5 st6 =>
              bsel v5 (R x8 st6)
                (bd (bInt BinOp.add x8 (LV.int IntKind.i64 1)) fun v7 =>
                  P46_1 x0 x1 x7 v7 R st6))
      (R (LV.int IntKind.i64 (-1)) st)
theorem w46_1_eq (x0 x1 x7 x8 : LV) (R : LV → LState → Prop) (st : LState) : levT Try.prog [.tmp 4] R [2, 3, 4, 5, 6, 9, 10, 11, 12, 13, 14, 15, 16, 17, 18] [] 3000 (stepIn (pointN Try.f46 1)) [x0, x1, .junk, .junk, .junk, .junk, .junk, x7, x8, .junk, .junk, .junk, .junk, .junk, .junk, .junk, .junk, .junk, .junk] st = w46_1 x0 x1 x7 x8 R st := by kernel_rfl
theorem p46_1 (x0 x1 x7 x8 : LV) {R : LV → LState → Prop} {st : LState} (h : w46_1 x0 x1 x7 x8 R st) : P46_1 x0 x1 x7 x8 R st :=
  LT.at cm_mixed 3000 (Eq.mpr (w46_1_eq x0 x1 x7 x8 R st) h)

/-- internal.stringslite.HasPrefix -/
def w50 (a0 a1 : LV) (R : LV → LState → Prop) (st : LState) : Prop :=
  bd (lenStr a0) fun v0 =>
    bd (lenStr a1) fun v1 =>
      bd (bInt BinOp.geq v0 v1) fun v2 =>
        bsel v2 (bd (lenStr a1) fun v3 => bd (ob3 none (some v3) none fun l h m => slStr a0 l h m) fun v4 => bd (bStr BinOp.eql v4 a1) fun v5 => R v5 st) (R (LV.bool false) st)
theorem w50_eq (a0 a1 : LV) (R : LV → LState → Prop) (st : LState) : levT Try.prog [.tmp 4] R [] [] 3000 [.code (bodyOf Try.f50)] ([a0, a1] ++ List.replicate (Try.f50.ntmps - 2) lundef) st = w50 a0 a1 R st := by kernel_rfl
theorem c50 (a0 a1 : LV) {R : LV → LState → Prop} {st : LState} (h : w50 a0 a1 R st) : LCalls Try.prog 50 [a0, a1] st R :=
  LCalls.of cm_mixed Try.func50 (show Try.f50.body = some (bodyOf Try.f50) by kernel_rfl) (by kernel_rfl) (show Try.f50.results.toList = [.tmp 4] by kernel_rfl) (levT_sound cm_mixed 3000 (Eq.mpr (w50_eq a0 a1 R st) h))

end Go.Proofs.Ytkjmpjaahgficaa
