/- Walks over the clean machine: what each function does, printed by a program of this work (cmp.py) out of the loaded functions; each is checked by the kernel. -/
import Derived.Test.YtknegckgmklnhaaGreatDoorProg
import Derived.Test.YtknegckgmklnhaaGreatDoorCp42
namespace Go.Proofs.YtknegckgmklnhaaGreatDoor
open Go Go.CP
set_option maxRecDepth 100000
theorem cm_mixed : Tryz.prog.follows .mixedOrders = true := by kernel_rfl
/-- the place 1 of f24 -/
def P24_1 (x1 x3 x4 x5 : LV) (R : LV → LState → Prop) (st : LState) : Prop := LT Tryz.prog [.tmp 2] (pointN Tryz.f24 1) R [.junk, x1, .junk, x3, x4, x5, .junk, .junk, .junk, .junk, .junk, .junk, .junk, .junk, .junk, .junk, .junk, .junk, .junk, .junk, .junk, .junk, .junk, .junk, .junk, .junk, .junk, .junk, .junk, .junk, .junk, .junk, .junk, .junk, .junk, .junk, .junk, .junk, .junk, .junk, .junk, .junk, .junk, .junk, .junk, .junk, .junk, .junk, .junk, .junk, .junk, .junk, .junk, .junk, .junk, .junk, .junk, .junk, .junk, .junk, .junk, .junk, .junk, .junk, .junk, .junk, .junk, .junk, .junk, .junk, .junk, .junk, .junk, .junk] st
/-- the place 4 of f24 -/
def P24_4 (x1 x3 x4 x5 : LV) (R : LV → LState → Prop) (st : LState) : Prop := LT Tryz.prog [.tmp 2] (pointN Tryz.f24 4) R [.junk, x1, .junk, x3, x4, x5, .junk, .junk, .junk, .junk, .junk, .junk, .junk, .junk, .junk, .junk, .junk, .junk, .junk, .junk, .junk, .junk, .junk, .junk, .junk, .junk, .junk, .junk, .junk, .junk, .junk, .junk, .junk, .junk, .junk, .junk, .junk, .junk, .junk, .junk, .junk, .junk, .junk, .junk, .junk, .junk, .junk, .junk, .junk, .junk, .junk, .junk, .junk, .junk, .junk, .junk, .junk, .junk, .junk, .junk, .junk, .junk, .junk, .junk, .junk, .junk, .junk, .junk, .junk, .junk, .junk, .junk, .junk, .junk] st
/-- the place 2 of f29 -/
def P29_2 (x1 x2 x5 x6 : LV) (R : LV → LState → Prop) (st : LState) : Prop := LT Tryz.prog [.cell 2 57] (pointN Tryz.f29 2) R [.junk, x1, x2, .junk, .junk, x5, x6, .junk, .junk, .junk, .junk, .junk, .junk, .junk, .junk, .junk, .junk, .junk, .junk, .junk, .junk, .junk, .junk, .junk, .junk, .junk, .junk, .junk, .junk, .junk, .junk, .junk, .junk, .junk, .junk, .junk, .junk, .junk, .junk, .junk, .junk, .junk, .junk, .junk, .junk, .junk, .junk, .junk, .junk, .junk, .junk, .junk, .junk, .junk, .junk, .junk, .junk, .junk, .junk, .junk, .junk, .junk, .junk, .junk, .junk, .junk, .junk, .junk, .junk, .junk, .junk, .junk, .junk] st
/-- the place 1 of f72 -/
def P72_1 (x1 x4 x6 x18 x19 x20 : LV) (R : LV → LState → Prop) (st : LState) : Prop := LT Tryz.prog [.cell 4 57, .tmp 5] (pointN Tryz.f72 1) R [.junk, x1, .junk, .junk, x4, .junk, x6, .junk, .junk, .junk, .junk, .junk, .junk, .junk, .junk, .junk, .junk, .junk, x18, x19, x20, .junk, .junk, .junk, .junk, .junk, .junk, .junk, .junk, .junk, .junk, .junk, .junk, .junk, .junk, .junk, .junk, .junk, .junk, .junk, .junk, .junk, .junk] st
/-- the place 1 of f85 -/
def P85_1 (x1 x3 x4 : LV) (R : LV → LState → Prop) (st : LState) : Prop := LT Tryz.prog [.tmp 2] (pointN Tryz.f85 1) R [.junk, x1, .junk, x3, x4, .junk, .junk, .junk, .junk, .junk, .junk, .junk, .junk, .junk, .junk, .junk, .junk, .junk, .junk, .junk, .junk] st
/-- the place 1 of f86 -/
def P86_1 (x1 x3 x4 : LV) (R : LV → LState → Prop) (st : LState) : Prop := LT Tryz.prog [.tmp 2] (pointN Tryz.f86 1) R [.junk, x1, .junk, x3, x4, .junk, .junk, .junk, .junk, .junk, .junk, .junk, .junk, .junk, .junk, .junk, .junk, .junk, .junk, .junk, .junk, .junk] st
/-- the place 1 of f101 -/
def P101_1 (x5 x6 x26 x27 x28 : LV) (R : LV → LState → Prop) (st : LState) : Prop := LT Tryz.prog [.tmp 2] (pointN Tryz.f101 1) R [.junk, .junk, .junk, .junk, .junk, x5, x6, .junk, .junk, .junk, .junk, .junk, .junk, .junk, .junk, .junk, .junk, .junk, .junk, .junk, .junk, .junk, .junk, .junk, .junk, .junk, x26, x27, x28, .junk, .junk, .junk, .junk, .junk, .junk, .junk, .junk, .junk, .junk, .junk] st
/-- the place 1 of f113 -/
def P113_1 (x1 x2 x15 x16 x17 : LV) (R : LV → LState → Prop) (st : LState) : Prop := LT Tryz.prog [.tmp 6] (pointN Tryz.f113 1) R [.junk, x1, x2, .junk, .junk, .junk, .junk, .junk, .junk, .junk, .junk, .junk, .junk, .junk, .junk, x15, x16, x17, .junk, .junk, .junk, .junk, .junk, .junk, .junk, .junk, .junk, .junk, .junk, .junk, .junk, .junk] st
/-- the place 1 of f114 -/
def P114_1 (x1 x2 x17 : LV) (R : LV → LState → Prop) (st : LState) : Prop := LT Tryz.prog [.tmp 6] (pointN Tryz.f114 1) R [.junk, x1, x2, .junk, .junk, .junk, .junk, .junk, .junk, .junk, .junk, .junk, .junk, .junk, .junk, .junk, .junk, x17, .junk, .junk, .junk, .junk, .junk, .junk, .junk, .junk, .junk, .junk, .junk, .junk, .junk, .junk, .junk, .junk, .junk, .junk, .junk, .junk] st
/-- the place 1 of f121 -/
def P121_1 (x0 x1 x12 x13 : LV) (R : LV → LState → Prop) (st : LState) : Prop := LT Tryz.prog [.tmp 4] (pointN Tryz.f121 1) R [x0, x1, .junk, .junk, .junk, .junk, .junk, .junk, .junk, .junk, .junk, .junk, x12, x13, .junk, .junk, .junk, .junk, .junk, .junk, .junk, .junk, .junk, .junk, .junk, .junk] st
/-- the place 1 of f122 -/
def P122_1 (x1 x2 x15 x16 x17 : LV) (R : LV → LState → Prop) (st : LState) : Prop := LT Tryz.prog [.tmp 6] (pointN Tryz.f122 1) R [.junk, x1, x2, .junk, .junk, .junk, .junk, .junk, .junk, .junk, .junk, .junk, .junk, .junk, .junk, x15, x16, x17, .junk, .junk, .junk, .junk, .junk, .junk, .junk, .junk, .junk, .junk, .junk, .junk, .junk, .junk] st
/-- the place 1 of f216 -/
def P216_1 (x0 x1 x7 x8 : LV) (R : LV → LState → Prop) (st : LState) : Prop := LT Tryz.prog [.tmp 4] (pointN Tryz.f216 1) R [x0, x1, .junk, .junk, .junk, .junk, .junk, x7, x8, .junk, .junk, .junk, .junk, .junk, .junk, .junk, .junk, .junk, .junk] st

/-- flange.flangelaw04.Great -/
def w24 (a0 : LV) (R : LV → LState → Prop) (st : LState) : Prop :=
  bd2 (lbox st a0) fun v0 st1 => bd (fAddr 5 v0) fun v2 => bd (ld1 st1 v2) fun v3 => bd (lenSl v3) fun v4 => bd (bInt BinOp.sub v4 (LV.int IntKind.i64 70)) fun v5 => bd (lmaxs [v5, LV.int IntKind.i64 0]) fun v6 => bd
  (fAddr 6 v0) fun v7 => bd (ld1 st1 v7) fun v8 => bd (lenSl v8) fun v9 => bd (bInt BinOp.sub v9 (LV.int IntKind.i64 70)) fun v10 => bd (lmaxs [v10, LV.int IntKind.i64 0]) fun v11 => bd (bInt BinOp.add v6 v11) fun v12 =>
  bd (fAddr 4 v0) fun v13 => bd (ld1 st1 v13) fun v14 => bd (lenStr v14) fun v15 => bd (bInt BinOp.sub v15 (LV.int IntKind.i64 300)) fun v16 => bd (lmaxs [v16, LV.int IntKind.i64 0]) fun v17 => bd (bInt BinOp.add v12 v17)
  fun v18 => bd (ldA st1 v0 7) fun v19 => bd (ldA st1 v0 7) fun v20 => LCalls Tryz.prog 85 [v19] st1 fun v21 st22 => ldA st22 v0 7 = some v20 ∧ ld1 st22 v13 = some v14 ∧ ld1 st22 v7 = some v8 ∧ ld1 st22 v2 = some v3 ∧ bd
  (bInt BinOp.sub v21 (LV.int IntKind.i64 200)) fun v23 => bd (lmaxs [v23, LV.int IntKind.i64 0]) fun v24 => bd (bInt BinOp.add v18 v24) fun v25 => LCalls Tryz.prog 86 [v20] st22 fun v26 st27 => ld1 st27 v13 = some v14 ∧
  ld1 st27 v7 = some v8 ∧ ld1 st27 v2 = some v3 ∧ bd (bInt BinOp.sub v26 (LV.int IntKind.i64 12)) fun v28 => bd (lmaxs [v28, LV.int IntKind.i64 0]) fun v29 => bd (bInt BinOp.add v25 v29) fun v30 => P24_1 v0 v30 (LV.int
  IntKind.i64 0) (LV.tup []) R st27
theorem w24_eq (a0 : LV) (R : LV → LState → Prop) (st : LState) : levT Tryz.prog [.tmp 2] R [0, 2, 6, 7, 8, 9, 10, 11, 12, 13, 14, 15, 16, 17, 18, 19, 20, 21, 22, 23, 24, 25, 26, 27, 28, 29, 30, 31, 32, 33, 34, 35, 36, 37, 38, 39, 40, 41, 42, 43, 44, 45, 46, 47, 48, 49, 50, 51, 52, 53, 54, 55, 56, 57, 58, 59, 60, 61, 62, 63, 64, 65, 66, 67, 68, 69, 70, 71, 72, 73] [] 3000 [.code (bodyOf Tryz.f24)] ([a0] ++ List.replicate (Tryz.f24.ntmps - 1) lundef) st = w24 a0 R st := by kernel_rfl
theorem c24 (a0 : LV) {R : LV → LState → Prop} {st : LState} (h : w24 a0 R st) : LCalls Tryz.prog 24 [a0] st R :=
  LCalls.of cm_mixed Tryz.func24 (show Tryz.f24.body = some (bodyOf Tryz.f24) by kernel_rfl) (by kernel_rfl) (show Tryz.f24.results.toList = [.tmp 2] by kernel_rfl) (levT_sound cm_mixed 3000 (Eq.mpr (w24_eq a0 R st) h))

/-- flange.flangelaw04.Great, from point 1 on -/
def w24_1 (x1 x3 x4 x5 : LV) (R : LV → LState → Prop) (st : LState) : Prop :=
  bd (fAddr 6 x1) fun v0 => bd (ld1 st v0) fun v1 => bd (lenSl v1) fun v2 => bd (bInt BinOp.lss x4 v2) fun v3 => bsel v3 (bd (bInt BinOp.lss x4 (LV.int IntKind.i64 80)) fun v4 => bsel v4 (bd (fAddr 6 x1) fun v5 => bd (ld1
  st v5) fun v6 => bd (ixSl 1 v6 x4) fun v7 => bd (ld1 st v7) fun v8 => bd (lenStr v8) fun v9 => bd (bInt BinOp.sub v9 (LV.int IntKind.i64 300)) fun v10 => bd (lmaxs [v10, LV.int IntKind.i64 0]) fun v11 => bd (bInt
  BinOp.add x3 v11) fun v12 => bd (bInt BinOp.add x4 (LV.int IntKind.i64 1)) fun v13 => P24_1 x1 v12 v13 x5 R st) (P24_4 x1 x3 x4 (LV.int IntKind.i64 0) R st)) (P24_4 x1 x3 x4 (LV.int IntKind.i64 0) R st)
theorem w24_1_eq (x1 x3 x4 x5 : LV) (R : LV → LState → Prop) (st : LState) : levT Tryz.prog [.tmp 2] R [0, 2, 6, 7, 8, 9, 10, 11, 12, 13, 14, 15, 16, 17, 18, 19, 20, 21, 22, 23, 24, 25, 26, 27, 28, 29, 30, 31, 32, 33, 34, 35, 36, 37, 38, 39, 40, 41, 42, 43, 44, 45, 46, 47, 48, 49, 50, 51, 52, 53, 54, 55, 56, 57, 58, 59, 60, 61, 62, 63, 64, 65, 66, 67, 68, 69, 70, 71, 72, 73] [] 3000 (stepIn (pointN Tryz.f24 1)) [.junk, x1, .junk, x3, x4, x5, .junk, .junk, .junk, .junk, .junk, .junk, .junk, .junk, .junk, .junk, .junk, .junk, .junk, .junk, .junk, .junk, .junk, .junk, .junk, .junk, .junk, .junk, .junk, .junk, .junk, .junk, .junk, .junk, .junk, .junk, .junk, .junk, .junk, .junk, .junk, .junk, .junk, .junk, .junk, .junk, .junk, .junk, .junk, .junk, .junk, .junk, .junk, .junk, .junk, .junk, .junk, .junk, .junk, .junk, .junk, .junk, .junk, .junk, .junk, .junk, .junk, .junk, .junk, .junk, .junk, .junk, .junk, .junk] st = w24_1 x1 x3 x4 x5 R st := by kernel_rfl
theorem p24_1 (x1 x3 x4 x5 : LV) {R : LV → LState → Prop} {st : LState} (h : w24_1 x1 x3 x4 x5 R st) : P24_1 x1 x3 x4 x5 R st :=
  LT.at cm_mixed 3000 (Eq.mpr (w24_1_eq x1 x3 x4 x5 R st) h)

/-- flange.flangelaw04.Great, from point 4 on -/
def w24_4 (x1 x3 x4 x5 : LV) (R : LV → LState → Prop) (st : LState) : Prop :=
  bd (fAddr 5 x1) fun v0 => bd (ld1 st v0) fun v1 => bd (lenSl v1) fun v2 => bd (bInt BinOp.lss x5 v2) fun v3 => bsel v3 (bd (bInt BinOp.eql x3 (LV.int IntKind.i64 0)) fun v4 => bsel v4 (bd (fAddr 5 x1) fun v5 => bd (ld1
  st v5) fun v6 => bd (ixSl 7 v6 x5) fun v7 => bd (ldA st v7 7) fun v8 => LCalls Tryz.prog 24 [v8] st fun v9 st10 => bd (bInt BinOp.add x3 v9) fun v11 => bd (bInt BinOp.add x5 (LV.int IntKind.i64 1)) fun v12 => P24_4 x1
  v11 x4 v12 R st10) (R x3 st)) (R x3 st)
theorem w24_4_eq (x1 x3 x4 x5 : LV) (R : LV → LState → Prop) (st : LState) : levT Tryz.prog [.tmp 2] R [0, 2, 6, 7, 8, 9, 10, 11, 12, 13, 14, 15, 16, 17, 18, 19, 20, 21, 22, 23, 24, 25, 26, 27, 28, 29, 30, 31, 32, 33, 34, 35, 36, 37, 38, 39, 40, 41, 42, 43, 44, 45, 46, 47, 48, 49, 50, 51, 52, 53, 54, 55, 56, 57, 58, 59, 60, 61, 62, 63, 64, 65, 66, 67, 68, 69, 70, 71, 72, 73] [] 3000 (stepIn (pointN Tryz.f24 4)) [.junk, x1, .junk, x3, x4, x5, .junk, .junk, .junk, .junk, .junk, .junk, .junk, .junk, .junk, .junk, .junk, .junk, .junk, .junk, .junk, .junk, .junk, .junk, .junk, .junk, .junk, .junk, .junk, .junk, .junk, .junk, .junk, .junk, .junk, .junk, .junk, .junk, .junk, .junk, .junk, .junk, .junk, .junk, .junk, .junk, .junk, .junk, .junk, .junk, .junk, .junk, .junk, .junk, .junk, .junk, .junk, .junk, .junk, .junk, .junk, .junk, .junk, .junk, .junk, .junk, .junk, .junk, .junk, .junk, .junk, .junk, .junk, .junk] st = w24_4 x1 x3 x4 x5 R st := by kernel_rfl
theorem p24_4 (x1 x3 x4 x5 : LV) {R : LV → LState → Prop} {st : LState} (h : w24_4 x1 x3 x4 x5 R st) : P24_4 x1 x3 x4 x5 R st :=
  LT.at cm_mixed 3000 (Eq.mpr (w24_4_eq x1 x3 x4 x5 R st) h)

/-- flange.flangeref04.Size -/
def w85 (a0 : LV) (R : LV → LState → Prop) (st : LState) : Prop :=
  bd2 (lbox st a0) fun v0 st1 => P85_1 v0 (LV.int IntKind.i64 1) (LV.int IntKind.i64 0) R st1
theorem w85_eq (a0 : LV) (R : LV → LState → Prop) (st : LState) : levT Tryz.prog [.tmp 2] R [0, 2, 5, 6, 7, 8, 9, 10, 11, 12, 13, 14, 15, 16, 17, 18, 19, 20] [] 3000 [.code (bodyOf Tryz.f85)] ([a0] ++ List.replicate (Tryz.f85.ntmps - 1) lundef) st = w85 a0 R st := by kernel_rfl
theorem c85 (a0 : LV) {R : LV → LState → Prop} {st : LState} (h : w85 a0 R st) : LCalls Tryz.prog 85 [a0] st R :=
  LCalls.of cm_mixed Tryz.func85 (show Tryz.f85.body = some (bodyOf Tryz.f85) by kernel_rfl) (by kernel_rfl) (show Tryz.f85.results.toList = [.tmp 2] by kernel_rfl) (levT_sound cm_mixed 3000 (Eq.mpr (w85_eq a0 R st) h))

/-- flange.flangeref04.Size, from point 1 on -/
def w85_1 (x1 x3 x4 : LV) (R : LV → LState → Prop) (st : LState) : Prop :=
  bd (fAddr 5 x1) fun v0 => bd (ld1 st v0) fun v1 => bd (lenSl v1) fun v2 => bd (bInt BinOp.lss x4 v2) fun v3 => bsel v3 (bd (fAddr 5 x1) fun v4 => bd (ld1 st v4) fun v5 => bd (ixSl 7 v5 x4) fun v6 => bd (ldA st v6 7) fun
  v7 => LCalls Tryz.prog 85 [v7] st fun v8 st9 => bd (bInt BinOp.add x3 v8) fun v10 => bd (bInt BinOp.add x4 (LV.int IntKind.i64 1)) fun v11 => P85_1 x1 v10 v11 R st9) (R x3 st)
theorem w85_1_eq (x1 x3 x4 : LV) (R : LV → LState → Prop) (st : LState) : levT Tryz.prog [.tmp 2] R [0, 2, 5, 6, 7, 8, 9, 10, 11, 12, 13, 14, 15, 16, 17, 18, 19, 20] [] 3000 (stepIn (pointN Tryz.f85 1)) [.junk, x1, .junk, x3, x4, .junk, .junk, .junk, .junk, .junk, .junk, .junk, .junk, .junk, .junk, .junk, .junk, .junk, .junk, .junk, .junk] st = w85_1 x1 x3 x4 R st := by kernel_rfl
theorem p85_1 (x1 x3 x4 : LV) {R : LV → LState → Prop} {st : LState} (h : w85_1 x1 x3 x4 R st) : P85_1 x1 x3 x4 R st :=
  LT.at cm_mixed 3000 (Eq.mpr (w85_1_eq x1 x3 x4 R st) h)

/-- flange.flangeref04.Deep -/
def w86 (a0 : LV) (R : LV → LState → Prop) (st : LState) : Prop :=
  bd2 (lbox st a0) fun v0 st1 => P86_1 v0 (LV.int IntKind.i64 0) (LV.int IntKind.i64 0) R st1
theorem w86_eq (a0 : LV) (R : LV → LState → Prop) (st : LState) : levT Tryz.prog [.tmp 2] R [0, 2, 5, 6, 7, 8, 9, 10, 11, 12, 13, 14, 15, 16, 17, 18, 19, 20, 21] [] 3000 [.code (bodyOf Tryz.f86)] ([a0] ++ List.replicate (Tryz.f86.ntmps - 1) lundef) st = w86 a0 R st := by kernel_rfl
theorem c86 (a0 : LV) {R : LV → LState → Prop} {st : LState} (h : w86 a0 R st) : LCalls Tryz.prog 86 [a0] st R :=
  LCalls.of cm_mixed Tryz.func86 (show Tryz.f86.body = some (bodyOf Tryz.f86) by kernel_rfl) (by kernel_rfl) (show Tryz.f86.results.toList = [.tmp 2] by kernel_rfl) (levT_sound cm_mixed 3000 (Eq.mpr (w86_eq a0 R st) h))

/-- flange.flangeref04.Deep, from point 1 on -/
def w86_1 (x1 x3 x4 : LV) (R : LV → LState → Prop) (st : LState) : Prop :=
  bd (fAddr 5 x1) fun v0 => bd (ld1 st v0) fun v1 => bd (lenSl v1) fun v2 => bd (bInt BinOp.lss x4 v2) fun v3 => bsel v3 (bd (fAddr 5 x1) fun v4 => bd (ld1 st v4) fun v5 => bd (ixSl 7 v5 x4) fun v6 => bd (ldA st v6 7) fun
  v7 => LCalls Tryz.prog 86 [v7] st fun v8 st9 => bd (lmaxs [x3, v8]) fun v10 => bd (bInt BinOp.add x4 (LV.int IntKind.i64 1)) fun v11 => P86_1 x1 v10 v11 R st9) (bd (bInt BinOp.add x3 (LV.int IntKind.i64 1)) fun v12 => R
  v12 st)
theorem w86_1_eq (x1 x3 x4 : LV) (R : LV → LState → Prop) (st : LState) : levT Tryz.prog [.tmp 2] R [0, 2, 5, 6, 7, 8, 9, 10, 11, 12, 13, 14, 15, 16, 17, 18, 19, 20, 21] [] 3000 (stepIn (pointN Tryz.f86 1)) [.junk, x1, .junk, x3, x4, .junk, .junk, .junk, .junk, .junk, .junk, .junk, .junk, .junk, .junk, .junk, .junk, .junk, .junk, .junk, .junk, .junk] st = w86_1 x1 x3 x4 R st := by kernel_rfl
theorem p86_1 (x1 x3 x4 : LV) {R : LV → LState → Prop} {st : LState} (h : w86_1 x1 x3 x4 R st) : P86_1 x1 x3 x4 R st :=
  LT.at cm_mixed 3000 (Eq.mpr (w86_1_eq x1 x3 x4 R st) h)

/-- flange.flangelaw04.To -/
def w29 (a0 : LV) (R : LV → LState → Prop) (st : LState) : Prop :=
  bd2 (lbox st a0) fun v0 st1 => nw st1 [LV.nili] fun v2 st3 => bd (fAddr 0 v0) fun v4 => bd (ld1 st3 v4) fun v5 => bd (bInt BinOp.eql v5 (LV.int IntKind.i64 1)) fun v6 => bsel v6 (LCalls Tryz.prog 69 [] st3 fun v7 st8 =>
  bd2 (lmk (stV st8 1 v2 v7)) fun _v9 st10 => bd (ldA st10 v2 1) fun v11 => R v11 st10) (bd (bInt BinOp.eql v5 (LV.int IntKind.i64 2)) fun v12 => bsel v12 (bd (fAddr 1 v0) fun v13 => bd (ld1 st3 v13) fun v14 => LCalls
  Tryz.prog 92 [v14] st3 fun v15 st16 => bd2 (lmk (stV st16 1 v2 v15)) fun _v17 st18 => bd (ldA st18 v2 1) fun v19 => R v19 st18) (bd (bInt BinOp.eql v5 (LV.int IntKind.i64 3)) fun v20 => bsel v20 (bd (fAddr 2 v0) fun v21
  => bd (ld1 st3 v21) fun v22 => LCalls Tryz.prog 73 [v22] st3 fun v23 st24 => bd2 (lmk (stV st24 1 v2 v23)) fun _v25 st26 => bd (ldA st26 v2 1) fun v27 => R v27 st26) (bd (bInt BinOp.eql v5 (LV.int IntKind.i64 4)) fun v28
  => bsel v28 (bd (fAddr 2 v0) fun v29 => bd (ld1 st3 v29) fun v30 => bd (fAddr 3 v0) fun v31 => bd (ld1 st3 v31) fun v32 => LCalls Tryz.prog 93 [v30, v32] st3 fun v33 st34 => bd (lextract v33 0) fun v35 => bd (lextract
  v33 1) fun _v36 => nw st34 [LV.nili] fun v37 st38 => bd2 (lmk (stV st38 1 v37 v35)) fun _v39 st40 => bd (ldA st40 v37 1) fun v41 => bd2 (lmk (stV st40 1 v2 v41)) fun _v42 st43 => bd (ldA st43 v2 1) fun v44 => R v44 st43)
  (bd (bInt BinOp.eql v5 (LV.int IntKind.i64 5)) fun v45 => bsel v45 (bd (fAddr 4 v0) fun v46 => bd (ld1 st3 v46) fun v47 => LCalls Tryz.prog 91 [v47] st3 fun v48 st49 => bd2 (lmk (stV st49 1 v2 v48)) fun _v50 st51 => bd
  (ldA st51 v2 1) fun v52 => R v52 st51) (bd (bInt BinOp.eql v5 (LV.int IntKind.i64 6)) fun v53 => bsel v53 (bsel v53 (P29_2 v0 v2 LV.nils (LV.int IntKind.i64 0) R st3) (LCalls Tryz.prog 66 [] st3 fun v54 st55 => bd2 (lmk
  (stV st55 1 v2 v54)) fun _v56 st57 => bd (ldA st57 v2 1) fun v58 => R v58 st57)) (bd (bInt BinOp.eql v5 (LV.int IntKind.i64 7)) fun v59 => bsel v59 (P29_2 v0 v2 LV.nils (LV.int IntKind.i64 0) R st3) (LCalls Tryz.prog 66
  [] st3 fun v60 st61 => bd2 (lmk (stV st61 1 v2 v60)) fun _v62 st63 => bd (ldA st63 v2 1) fun v64 => R v64 st63)))))))
theorem w29_eq (a0 : LV) (R : LV → LState → Prop) (st : LState) : levT Tryz.prog [.cell 2 57] R [0, 3, 4, 7, 8, 9, 10, 11, 12, 13, 14, 15, 16, 17, 18, 19, 20, 21, 22, 23, 24, 25, 26, 27, 28, 29, 30, 31, 32, 33, 34, 35, 36, 37, 38, 39, 40, 41, 42, 43, 44, 45, 46, 47, 48, 49, 50, 51, 52, 53, 54, 55, 56, 57, 58, 59, 60, 61, 62, 63, 64, 65, 66, 67, 68, 69, 70, 71, 72] [] 3000 [.code (bodyOf Tryz.f29)] ([a0] ++ List.replicate (Tryz.f29.ntmps - 1) lundef) st = w29 a0 R st := by kernel_rfl
theorem c29 (a0 : LV) {R : LV → LState → Prop} {st : LState} (h : w29 a0 R st) : LCalls Tryz.prog 29 [a0] st R :=
  LCalls.of cm_mixed Tryz.func29 (show Tryz.f29.body = some (bodyOf Tryz.f29) by kernel_rfl) (by kernel_rfl) (show Tryz.f29.results.toList = [.cell 2 57] by kernel_rfl) (levT_sound cm_mixed 3000 (Eq.mpr (w29_eq a0 R st) h))

/-- flange.flangelaw04.To, from point 2 on -/
def w29_2 (x1 x2 x5 x6 : LV) (R : LV → LState → Prop) (st : LState) : Prop :=
  bd (fAddr 5 x1) fun v0 => bd (ld1 st v0) fun v1 => bd (lenSl v1) fun v2 => bd (bInt BinOp.lss x6 v2) fun v3 => bsel v3 (bd (fAddr 5 x1) fun v4 => bd (ld1 st v4) fun v5 => bd (ixSl 7 v5 x6) fun v6 => bd (ldA st v6 7) fun
  v7 => LCalls Tryz.prog 29 [v7] st fun v8 st9 => bd2 (slNew st9 1 (lfill (fun i => some (i * 1, 1)) (List.replicate 1 [LV.nili]).flatten [(0, v8)])) fun v10 st11 => bd2 (lappend st11 1 16 Md.rw x5 v10) fun v12 st13 => bd
  (bInt BinOp.add x6 (LV.int IntKind.i64 1)) fun v14 => P29_2 x1 x2 v12 v14 R st13) (bd (fAddr 0 x1) fun v15 => bd (ld1 st v15) fun v16 => bd (bInt BinOp.eql v16 (LV.int IntKind.i64 6)) fun v17 => bsel v17 (LCalls
  Tryz.prog 94 [x5] st fun v18 st19 => bd2 (lmk (stV st19 1 x2 v18)) fun _v20 st21 => bd (ldA st21 x2 1) fun v22 => R v22 st21) (bd (fAddr 6 x1) fun v23 => bd (ld1 st v23) fun v24 => LCalls Tryz.prog 72 [v24, x5] st fun
  v25 st26 => bd (lextract v25 0) fun v27 => bd (lextract v25 1) fun _v28 => nw st26 [LV.nili] fun v29 st30 => bd2 (lmk (stV st30 1 v29 v27)) fun _v31 st32 => bd (ldA st32 v29 1) fun v33 => bd2 (lmk (stV st32 1 x2 v33))
  fun _v34 st35 => bd (ldA st35 x2 1) fun v36 => R v36 st35))
theorem w29_2_eq (x1 x2 x5 x6 : LV) (R : LV → LState → Prop) (st : LState) : levT Tryz.prog [.cell 2 57] R [0, 3, 4, 7, 8, 9, 10, 11, 12, 13, 14, 15, 16, 17, 18, 19, 20, 21, 22, 23, 24, 25, 26, 27, 28, 29, 30, 31, 32, 33, 34, 35, 36, 37, 38, 39, 40, 41, 42, 43, 44, 45, 46, 47, 48, 49, 50, 51, 52, 53, 54, 55, 56, 57, 58, 59, 60, 61, 62, 63, 64, 65, 66, 67, 68, 69, 70, 71, 72] [] 3000 (stepIn (pointN Tryz.f29 2)) [.junk, x1, x2, .junk, .junk, x5, x6, .junk, .junk, .junk, .junk, .junk, .junk, .junk, .junk, .junk, .junk, .junk, .junk, .junk, .junk, .junk, .junk, .junk, .junk, .junk, .junk, .junk, .junk, .junk, .junk, .junk, .junk, .junk, .junk, .junk, .junk, .junk, .junk, .junk, .junk, .junk, .junk, .junk, .junk, .junk, .junk, .junk, .junk, .junk, .junk, .junk, .junk, .junk, .junk, .junk, .junk, .junk, .junk, .junk, .junk, .junk, .junk, .junk, .junk, .junk, .junk, .junk, .junk, .junk, .junk, .junk, .junk] st = w29_2 x1 x2 x5 x6 R st := by kernel_rfl
theorem p29_2 (x1 x2 x5 x6 : LV) {R : LV → LState → Prop} {st : LState} (h : w29_2 x1 x2 x5 x6 R st) : P29_2 x1 x2 x5 x6 R st :=
  LT.at cm_mixed 3000 (Eq.mpr (w29_2_eq x1 x2 x5 x6 R st) h)

/-- flange.value.Unset -/
def w66 (R : LV → LState → Prop) (st : LState) : Prop :=
  nw st [LV.nili] fun v0 st1 => bd (mkAgg (lfill (placesL [(0, 1)]) [LV.nili] [])) fun v2 => bd2 (lmk (stV st1 1 v0 v2)) fun _v3 st4 => bd (ldA st4 v0 1) fun v5 => R v5 st4
theorem w66_eq (R : LV → LState → Prop) (st : LState) : levT Tryz.prog [.cell 0 57] R [] [] 3000 [.code (bodyOf Tryz.f66)] ([] ++ List.replicate (Tryz.f66.ntmps - 0) lundef) st = w66  R st := by kernel_rfl
theorem c66 {R : LV → LState → Prop} {st : LState} (h : w66  R st) : LCalls Tryz.prog 66 [] st R :=
  LCalls.of cm_mixed Tryz.func66 (show Tryz.f66.body = some (bodyOf Tryz.f66) by kernel_rfl) (by kernel_rfl) (show Tryz.f66.results.toList = [.cell 0 57] by kernel_rfl) (levT_sound cm_mixed 3000 (Eq.mpr (w66_eq  R st) h))

/-- flange.value.Later -/
def w69 (R : LV → LState → Prop) (st : LState) : Prop :=
  nw st [LV.nili] fun v0 st1 => bd (mkAgg (lfill (placesL []) [] [])) fun v2 => bd (mkAgg (lfill (placesL [(0, 1)]) [LV.nili] [(0, LV.iface 169 v2)])) fun v3 => bd2 (lmk (stV st1 1 v0 v3)) fun _v4 st5 => bd (ldA st5 v0 1)
  fun v6 => R v6 st5
theorem w69_eq (R : LV → LState → Prop) (st : LState) : levT Tryz.prog [.cell 0 57] R [] [] 3000 [.code (bodyOf Tryz.f69)] ([] ++ List.replicate (Tryz.f69.ntmps - 0) lundef) st = w69  R st := by kernel_rfl
theorem c69 {R : LV → LState → Prop} {st : LState} (h : w69  R st) : LCalls Tryz.prog 69 [] st R :=
  LCalls.of cm_mixed Tryz.func69 (show Tryz.f69.body = some (bodyOf Tryz.f69) by kernel_rfl) (by kernel_rfl) (show Tryz.f69.results.toList = [.cell 0 57] by kernel_rfl) (levT_sound cm_mixed 3000 (Eq.mpr (w69_eq  R st) h))

/-- flange.value.Of -/
def w92 (a0 : LV) (R : LV → LState → Prop) (st : LState) : Prop :=
  nw st [LV.nili] fun v0 st1 => bd (mkAgg (lfill (placesL [(0, 1)]) [LV.nili] [(0, LV.iface 4 a0)])) fun v2 => bd2 (lmk (stV st1 1 v0 v2)) fun _v3 st4 => bd (ldA st4 v0 1) fun v5 => R v5 st4
theorem w92_eq (a0 : LV) (R : LV → LState → Prop) (st : LState) : levT Tryz.prog [.cell 2 57] R [] [] 3000 [.code (bodyOf Tryz.f92)] ([a0] ++ List.replicate (Tryz.f92.ntmps - 1) lundef) st = w92 a0 R st := by kernel_rfl
theorem c92 (a0 : LV) {R : LV → LState → Prop} {st : LState} (h : w92 a0 R st) : LCalls Tryz.prog 92 [a0] st R :=
  LCalls.of cm_mixed Tryz.func92 (show Tryz.f92.body = some (bodyOf Tryz.f92) by kernel_rfl) (by kernel_rfl) (show Tryz.f92.results.toList = [.cell 2 57] by kernel_rfl) (levT_sound cm_mixed 3000 (Eq.mpr (w92_eq a0 R st) h))

/-- flange.value.Int -/
def w73 (a0 : LV) (R : LV → LState → Prop) (st : LState) : Prop :=
  nw st [LV.nili] fun v0 st1 => bd (mkAgg (lfill (placesL [(0, 1)]) [LV.nili] [(0, LV.iface 3 a0)])) fun v2 => bd2 (lmk (stV st1 1 v0 v2)) fun _v3 st4 => bd (ldA st4 v0 1) fun v5 => R v5 st4
theorem w73_eq (a0 : LV) (R : LV → LState → Prop) (st : LState) : levT Tryz.prog [.cell 2 57] R [] [] 3000 [.code (bodyOf Tryz.f73)] ([a0] ++ List.replicate (Tryz.f73.ntmps - 1) lundef) st = w73 a0 R st := by kernel_rfl
theorem c73 (a0 : LV) {R : LV → LState → Prop} {st : LState} (h : w73 a0 R st) : LCalls Tryz.prog 73 [a0] st R :=
  LCalls.of cm_mixed Tryz.func73 (show Tryz.f73.body = some (bodyOf Tryz.f73) by kernel_rfl) (by kernel_rfl) (show Tryz.f73.results.toList = [.cell 2 57] by kernel_rfl) (levT_sound cm_mixed 3000 (Eq.mpr (w73_eq a0 R st) h))

/-- flange.value.Point -/
def w93 (a0 a1 : LV) (R : LV → LState → Prop) (st : LState) : Prop :=
  nw st [LV.nili] fun v0 st1 => LCalls Tryz.prog 156 [a0] st1 fun v2 st3 => bd (lun UnOp.not v2) fun v4 => bsel v4 (bd (mkAgg (lfill (placesL [(0, 1)]) [LV.nili] [])) fun v5 => bd2 (lmk (stV st3 1 v0 v5)) fun _v6 st7 => bd
  (ldA st7 v0 1) fun v8 => R (LV.tup [v8, LV.int IntKind.i64 2]) st7) (LCalls Tryz.prog 156 [a1] st3 fun v9 st10 => bd (lun UnOp.not v9) fun v11 => bsel v11 (bd (mkAgg (lfill (placesL [(0, 1)]) [LV.nili] [])) fun v12 =>
  bd2 (lmk (stV st10 1 v0 v12)) fun _v13 st14 => bd (ldA st14 v0 1) fun v15 => R (LV.tup [v15, LV.int IntKind.i64 2]) st14) (bd (cvIF FloatKind.f64 a0) fun v16 => bd (cvIF FloatKind.f64 a1) fun v17 => bd (lcplx v16 v17)
  fun v18 => bd (mkAgg (lfill (placesL [(0, 1)]) [LV.nili] [(0, LV.iface 170 v18)])) fun v19 => bd2 (lmk (stV st10 1 v0 v19)) fun _v20 st21 => bd (ldA st21 v0 1) fun v22 => R (LV.tup [v22, LV.int IntKind.i64 0]) st21))
theorem w93_eq (a0 a1 : LV) (R : LV → LState → Prop) (st : LState) : levT Tryz.prog [.cell 4 57, .tmp 5] R [] [] 3000 [.code (bodyOf Tryz.f93)] ([a0, a1] ++ List.replicate (Tryz.f93.ntmps - 2) lundef) st = w93 a0 a1 R st := by kernel_rfl
theorem c93 (a0 a1 : LV) {R : LV → LState → Prop} {st : LState} (h : w93 a0 a1 R st) : LCalls Tryz.prog 93 [a0, a1] st R :=
  LCalls.of cm_mixed Tryz.func93 (show Tryz.f93.body = some (bodyOf Tryz.f93) by kernel_rfl) (by kernel_rfl) (show Tryz.f93.results.toList = [.cell 4 57, .tmp 5] by kernel_rfl) (levT_sound cm_mixed 3000 (Eq.mpr (w93_eq a0 a1 R st) h))

/-- flange.value.Text -/
def w91 (a0 : LV) (R : LV → LState → Prop) (st : LState) : Prop :=
  nw st [LV.nili] fun v0 st1 => bd (mkAgg (lfill (placesL [(0, 1)]) [LV.nili] [(0, LV.iface 9 a0)])) fun v2 => bd2 (lmk (stV st1 1 v0 v2)) fun _v3 st4 => bd (ldA st4 v0 1) fun v5 => R v5 st4
theorem w91_eq (a0 : LV) (R : LV → LState → Prop) (st : LState) : levT Tryz.prog [.cell 2 57] R [] [] 3000 [.code (bodyOf Tryz.f91)] ([a0] ++ List.replicate (Tryz.f91.ntmps - 1) lundef) st = w91 a0 R st := by kernel_rfl
theorem c91 (a0 : LV) {R : LV → LState → Prop} {st : LState} (h : w91 a0 R st) : LCalls Tryz.prog 91 [a0] st R :=
  LCalls.of cm_mixed Tryz.func91 (show Tryz.f91.body = some (bodyOf Tryz.f91) by kernel_rfl) (by kernel_rfl) (show Tryz.f91.results.toList = [.cell 2 57] by kernel_rfl) (levT_sound cm_mixed 3000 (Eq.mpr (w91_eq a0 R st) h))

/-- flange.value.List -/
def w94 (a0 : LV) (R : LV → LState → Prop) (st : LState) : Prop :=
  nw st [LV.nili] fun v0 st1 => LCalls Tryz.prog 157 [a0] st1 fun v2 st3 => bd (mkAgg (lfill (placesL [(0, 1)]) [LV.nili] [(0, LV.iface 171 v2)])) fun v4 => bd2 (lmk (stV st3 1 v0 v4)) fun _v5 st6 => bd (ldA st6 v0 1) fun
  v7 => R v7 st6
theorem w94_eq (a0 : LV) (R : LV → LState → Prop) (st : LState) : levT Tryz.prog [.cell 2 57] R [] [] 3000 [.code (bodyOf Tryz.f94)] ([a0] ++ List.replicate (Tryz.f94.ntmps - 1) lundef) st = w94 a0 R st := by kernel_rfl
theorem c94 (a0 : LV) {R : LV → LState → Prop} {st : LState} (h : w94 a0 R st) : LCalls Tryz.prog 94 [a0] st R :=
  LCalls.of cm_mixed Tryz.func94 (show Tryz.f94.body = some (bodyOf Tryz.f94) by kernel_rfl) (by kernel_rfl) (show Tryz.f94.results.toList = [.cell 2 57] by kernel_rfl) (levT_sound cm_mixed 3000 (Eq.mpr (w94_eq a0 R st) h))

/-- flange.value.Map -/
def w72 (a0 a1 : LV) (R : LV → LState → Prop) (st : LState) : Prop :=
  nw st [LV.nili] fun v0 st1 => bd (lenSl a0) fun v2 => bd (lenSl a1) fun v3 => bd (bInt BinOp.neq v2 v3) fun v4 => bsel v4 (bd (mkAgg (lfill (placesL [(0, 1)]) [LV.nili] [])) fun v5 => bd2 (lmk (stV st1 1 v0 v5)) fun _v6
  st7 => bd (ldA st7 v0 1) fun v8 => R (LV.tup [v8, LV.int IntKind.i64 1]) st7) (nwMap st1 fun v9 st10 => bd (lenSl a0) fun v11 => P72_1 a1 v0 v9 a0 v11 (LV.int IntKind.i64 0) R st10)
theorem w72_eq (a0 a1 : LV) (R : LV → LState → Prop) (st : LState) : levT Tryz.prog [.cell 4 57, .tmp 5] R [0, 2, 3, 5, 7, 8, 9, 10, 11, 12, 13, 14, 15, 16, 17, 21, 22, 23, 24, 25, 26, 27, 28, 29, 30, 31, 32, 33, 34, 35, 36, 37, 38, 39, 40, 41, 42] [] 3000 [.code (bodyOf Tryz.f72)] ([a0, a1] ++ List.replicate (Tryz.f72.ntmps - 2) lundef) st = w72 a0 a1 R st := by kernel_rfl
theorem c72 (a0 a1 : LV) {R : LV → LState → Prop} {st : LState} (h : w72 a0 a1 R st) : LCalls Tryz.prog 72 [a0, a1] st R :=
  LCalls.of cm_mixed Tryz.func72 (show Tryz.f72.body = some (bodyOf Tryz.f72) by kernel_rfl) (by kernel_rfl) (show Tryz.f72.results.toList = [.cell 4 57, .tmp 5] by kernel_rfl) (levT_sound cm_mixed 3000 (Eq.mpr (w72_eq a0 a1 R st) h))

/-- flange.value.Map, from point 1 on -/
def w72_1 (x1 x4 x6 x18 x19 x20 : LV) (R : LV → LState → Prop) (st : LState) : Prop :=
  bd (bInt BinOp.lss x20 x19) fun v0 => bsel v0 (bd (ixSl 1 x18 x20) fun v1 => bd (ld1 st v1) fun v2 => bd (mget st true (some (LV.agg [LV.nili])) x6 v2 true) fun v3 => bd (lextract v3 0) fun v4 => bd (lextract v3 1) fun
  v5 => nw st [LV.nili] fun v6 st7 => bd2 (lmk (stV st7 1 v6 v4)) fun _v8 st9 => bsel v5 (bd (mkAgg (lfill (placesL [(0, 1)]) [LV.nili] [])) fun v10 => bd2 (lmk (stV st9 1 x4 v10)) fun _v11 st12 => bd (ldA st12 x4 1) fun
  v13 => R (LV.tup [v13, LV.int IntKind.i64 9]) st12) (bd (ixSl 1 x1 x20) fun v14 => bd (ldA st9 v14 1) fun v15 => bd2 (lmk (mset st9 true x6 v2 v15)) fun _v16 st17 => bd (bInt BinOp.add x20 (LV.int IntKind.i64 1)) fun v18
  => P72_1 x1 x4 x6 x18 x19 v18 R st17)) (bd (mkAgg (lfill (placesL [(0, 1)]) [LV.nili] [(0, LV.iface 173 x6)])) fun v19 => bd2 (lmk (stV st 1 x4 v19)) fun _v20 st21 => bd (ldA st21 x4 1) fun v22 => R (LV.tup [v22, LV.int
  IntKind.i64 0]) st21)
theorem w72_1_eq (x1 x4 x6 x18 x19 x20 : LV) (R : LV → LState → Prop) (st : LState) : levT Tryz.prog [.cell 4 57, .tmp 5] R [0, 2, 3, 5, 7, 8, 9, 10, 11, 12, 13, 14, 15, 16, 17, 21, 22, 23, 24, 25, 26, 27, 28, 29, 30, 31, 32, 33, 34, 35, 36, 37, 38, 39, 40, 41, 42] [] 3000 (stepIn (pointN Tryz.f72 1)) [.junk, x1, .junk, .junk, x4, .junk, x6, .junk, .junk, .junk, .junk, .junk, .junk, .junk, .junk, .junk, .junk, .junk, x18, x19, x20, .junk, .junk, .junk, .junk, .junk, .junk, .junk, .junk, .junk, .junk, .junk, .junk, .junk, .junk, .junk, .junk, .junk, .junk, .junk, .junk, .junk, .junk] st = w72_1 x1 x4 x6 x18 x19 x20 R st := by kernel_rfl
theorem p72_1 (x1 x4 x6 x18 x19 x20 : LV) {R : LV → LState → Prop} {st : LState} (h : w72_1 x1 x4 x6 x18 x19 x20 R st) : P72_1 x1 x4 x6 x18 x19 x20 R st :=
  LT.at cm_mixed 3000 (Eq.mpr (w72_1_eq x1 x4 x6 x18 x19 x20 R st) h)

/-- flange.value.near -/
def w156 (a0 : LV) (R : LV → LState → Prop) (st : LState) : Prop :=
  bd (bInt BinOp.geq a0 (LV.int IntKind.i64 (-9007199254740992))) fun v0 => bsel v0 (bd (bInt BinOp.leq a0 (LV.int IntKind.i64 9007199254740992)) fun v1 => R v1 st) (R (LV.bool false) st)
theorem w156_eq (a0 : LV) (R : LV → LState → Prop) (st : LState) : levT Tryz.prog [.tmp 2] R [] [] 3000 [.code (bodyOf Tryz.f156)] ([a0] ++ List.replicate (Tryz.f156.ntmps - 1) lundef) st = w156 a0 R st := by kernel_rfl
theorem c156 (a0 : LV) {R : LV → LState → Prop} {st : LState} (h : w156 a0 R st) : LCalls Tryz.prog 156 [a0] st R :=
  LCalls.of cm_mixed Tryz.func156 (show Tryz.f156.body = some (bodyOf Tryz.f156) by kernel_rfl) (by kernel_rfl) (show Tryz.f156.results.toList = [.tmp 2] by kernel_rfl) (levT_sound cm_mixed 3000 (Eq.mpr (w156_eq a0 R st) h))

/-- slices.Clone[[]flange.value.Value,flange.value.Value] -/
def w157 (a0 : LV) (R : LV → LState → Prop) (st : LState) : Prop :=
  bd (eqB BinOp.eql (eqSl a0 LV.nils)) fun v0 => bsel v0 (R LV.nils st) (bd2 (slNew st 0 (lfill (fun i => some (i * 1, 1)) (List.replicate 0 [LV.nili]).flatten [])) fun v1 st2 => bd2 (lappend st2 1 16 Md.rw v1 a0) fun v3
  st4 => R v3 st4)
theorem w157_eq (a0 : LV) (R : LV → LState → Prop) (st : LState) : levT Tryz.prog [.tmp 2] R [] [] 3000 [.code (bodyOf Tryz.f157)] ([a0] ++ List.replicate (Tryz.f157.ntmps - 1) lundef) st = w157 a0 R st := by kernel_rfl
theorem c157 (a0 : LV) {R : LV → LState → Prop} {st : LState} (h : w157 a0 R st) : LCalls Tryz.prog 157 [a0] st R :=
  LCalls.of cm_mixed Tryz.func157 (show Tryz.f157.body = some (bodyOf Tryz.f157) by kernel_rfl) (by kernel_rfl) (show Tryz.f157.results.toList = [.tmp 2] by kernel_rfl) (levT_sound cm_mixed 3000 (Eq.mpr (w157_eq a0 R st) h))

/-- (flange.value.Value).Kind -/
def w46 (a0 : LV) (R : LV → LState → Prop) (st : LState) : Prop :=
  bd2 (lbox st a0) fun v0 st1 => bd (fAddr 0 v0) fun v2 => bd (ld1 st1 v2) fun v3 => bd (asC 169 (some (LV.agg [])) v3 true) fun v4 => bd (lextract v4 1) fun v5 => bd (lextract v4 0) fun _v6 => bsel v5 (R (LV.int
  IntKind.i64 1) st1) (bd (asC 4 (some (LV.bool false)) v3 true) fun v7 => bd (lextract v7 1) fun v8 => bd (lextract v7 0) fun _v9 => bsel v8 (R (LV.int IntKind.i64 2) st1) (bd (asC 3 (some (LV.int IntKind.i64 0)) v3 true)
  fun v10 => bd (lextract v10 1) fun v11 => bd (lextract v10 0) fun _v12 => bsel v11 (R (LV.int IntKind.i64 3) st1) (bd (asC 170 (some (LV.cplx FloatKind.f64 0 0)) v3 true) fun v13 => bd (lextract v13 1) fun v14 => bd
  (lextract v13 0) fun _v15 => bsel v14 (R (LV.int IntKind.i64 4) st1) (bd (asC 9 (some (LV.str [])) v3 true) fun v16 => bd (lextract v16 1) fun v17 => bd (lextract v16 0) fun _v18 => bsel v17 (R (LV.int IntKind.i64 5)
  st1) (bd (asC 171 (some LV.nils) v3 true) fun v19 => bd (lextract v19 1) fun v20 => bd (lextract v19 0) fun _v21 => bsel v20 (R (LV.int IntKind.i64 6) st1) (bd (asC 173 (some LV.nilm) v3 true) fun v22 => bd (lextract v22
  1) fun v23 => bd (lextract v22 0) fun _v24 => bsel v23 (R (LV.int IntKind.i64 7) st1) (R (LV.int IntKind.i64 0) st1)))))))
theorem w46_eq (a0 : LV) (R : LV → LState → Prop) (st : LState) : levT Tryz.prog [.tmp 2] R [] [] 3000 [.code (bodyOf Tryz.f46)] ([a0] ++ List.replicate (Tryz.f46.ntmps - 1) lundef) st = w46 a0 R st := by kernel_rfl
theorem c46 (a0 : LV) {R : LV → LState → Prop} {st : LState} (h : w46 a0 R st) : LCalls Tryz.prog 46 [a0] st R :=
  LCalls.of cm_mixed Tryz.func46 (show Tryz.f46.body = some (bodyOf Tryz.f46) by kernel_rfl) (by kernel_rfl) (show Tryz.f46.results.toList = [.tmp 2] by kernel_rfl) (levT_sound cm_mixed 3000 (Eq.mpr (w46_eq a0 R st) h))

/-- (flange.value.Value).Keys -/
def w49 (a0 : LV) (R : LV → LState → Prop) (st : LState) : Prop :=
  bd2 (lbox st a0) fun v0 st1 => bd (fAddr 0 v0) fun v2 => bd (ld1 st1 v2) fun v3 => bd (asC 173 (some LV.nilm) v3 true) fun v4 => bd (lextract v4 0) fun v5 => bd (lextract v4 1) fun _v6 => LCalls Tryz.prog 116 [v5] st1
  fun v7 st8 => LCalls Tryz.prog 115 [v7] st8 fun v9 st10 => R v9 st10
theorem w49_eq (a0 : LV) (R : LV → LState → Prop) (st : LState) : levT Tryz.prog [.tmp 2] R [] [] 3000 [.code (bodyOf Tryz.f49)] ([a0] ++ List.replicate (Tryz.f49.ntmps - 1) lundef) st = w49 a0 R st := by kernel_rfl
theorem c49 (a0 : LV) {R : LV → LState → Prop} {st : LState} (h : w49 a0 R st) : LCalls Tryz.prog 49 [a0] st R :=
  LCalls.of cm_mixed Tryz.func49 (show Tryz.f49.body = some (bodyOf Tryz.f49) by kernel_rfl) (by kernel_rfl) (show Tryz.f49.results.toList = [.tmp 2] by kernel_rfl) (levT_sound cm_mixed 3000 (Eq.mpr (w49_eq a0 R st) h))

/-- (flange.value.Value).Items -/
def w101 (a0 : LV) (R : LV → LState → Prop) (st : LState) : Prop :=
  bd2 (lbox st a0) fun v0 st1 => bd (fAddr 0 v0) fun v2 => bd (ld1 st1 v2) fun v3 => bd (asC 171 (some LV.nils) v3 true) fun v4 => bd (lextract v4 0) fun v5 => bd (lextract v4 1) fun v6 => bsel v6 (LCalls Tryz.prog 159
  [v5] st1 fun v7 st8 => R v7 st8) (bd (fAddr 0 v0) fun v9 => bd (ld1 st1 v9) fun v10 => bd (asC 173 (some LV.nilm) v10 true) fun v11 => bd (lextract v11 0) fun v12 => bd (lextract v11 1) fun _v13 => bd (ldA st1 v0 1) fun
  v14 => LCalls Tryz.prog 49 [v14] st1 fun v15 st16 => bd (lenSl v15) fun v17 => P101_1 LV.nils v12 v15 v17 (LV.int IntKind.i64 0) R st16)
theorem w101_eq (a0 : LV) (R : LV → LState → Prop) (st : LState) : levT Tryz.prog [.tmp 2] R [0, 1, 2, 3, 4, 7, 8, 9, 10, 11, 12, 13, 14, 15, 16, 17, 18, 19, 20, 21, 22, 23, 24, 25, 29, 30, 31, 32, 33, 34, 35, 36, 37, 38, 39] [] 3000 [.code (bodyOf Tryz.f101)] ([a0] ++ List.replicate (Tryz.f101.ntmps - 1) lundef) st = w101 a0 R st := by kernel_rfl
theorem c101 (a0 : LV) {R : LV → LState → Prop} {st : LState} (h : w101 a0 R st) : LCalls Tryz.prog 101 [a0] st R :=
  LCalls.of cm_mixed Tryz.func101 (show Tryz.f101.body = some (bodyOf Tryz.f101) by kernel_rfl) (by kernel_rfl) (show Tryz.f101.results.toList = [.tmp 2] by kernel_rfl) (levT_sound cm_mixed 3000 (Eq.mpr (w101_eq a0 R st) h))

/-- (flange.value.Value).Items, from point 1 on -/
def w101_1 (x5 x6 x26 x27 x28 : LV) (R : LV → LState → Prop) (st : LState) : Prop :=
  bd (bInt BinOp.lss x28 x27) fun v0 => bsel v0 (bd (ixSl 1 x26 x28) fun v1 => bd (ld1 st v1) fun v2 => bd (mget st true (some (LV.agg [LV.nili])) x6 v2 false) fun v3 => bd2 (slNew st 1 (lfill (fun i => some (i * 1, 1))
  (List.replicate 1 [LV.nili]).flatten [(0, v3)])) fun v4 st5 => bd2 (lappend st5 1 16 Md.rw x5 v4) fun v6 st7 => bd (bInt BinOp.add x28 (LV.int IntKind.i64 1)) fun v8 => P101_1 v6 x6 x26 x27 v8 R st7) (R x5 st)
theorem w101_1_eq (x5 x6 x26 x27 x28 : LV) (R : LV → LState → Prop) (st : LState) : levT Tryz.prog [.tmp 2] R [0, 1, 2, 3, 4, 7, 8, 9, 10, 11, 12, 13, 14, 15, 16, 17, 18, 19, 20, 21, 22, 23, 24, 25, 29, 30, 31, 32, 33, 34, 35, 36, 37, 38, 39] [] 3000 (stepIn (pointN Tryz.f101 1)) [.junk, .junk, .junk, .junk, .junk, x5, x6, .junk, .junk, .junk, .junk, .junk, .junk, .junk, .junk, .junk, .junk, .junk, .junk, .junk, .junk, .junk, .junk, .junk, .junk, .junk, x26, x27, x28, .junk, .junk, .junk, .junk, .junk, .junk, .junk, .junk, .junk, .junk, .junk] st = w101_1 x5 x6 x26 x27 x28 R st := by kernel_rfl
theorem p101_1 (x5 x6 x26 x27 x28 : LV) {R : LV → LState → Prop} {st : LState} (h : w101_1 x5 x6 x26 x27 x28 R st) : P101_1 x5 x6 x26 x27 x28 R st :=
  LT.at cm_mixed 3000 (Eq.mpr (w101_1_eq x5 x6 x26 x27 x28 R st) h)

/-- slices.Clone[flange.value.list,flange.value.Value] -/
def w159 (a0 : LV) (R : LV → LState → Prop) (st : LState) : Prop :=
  bd (eqB BinOp.eql (eqSl a0 LV.nils)) fun v0 => bsel v0 (R LV.nils st) (bd2 (slNew st 0 (lfill (fun i => some (i * 1, 1)) (List.replicate 0 [LV.nili]).flatten [])) fun v1 st2 => bd2 (lappend st2 1 16 Md.rw v1 a0) fun v3
  st4 => R v3 st4)
theorem w159_eq (a0 : LV) (R : LV → LState → Prop) (st : LState) : levT Tryz.prog [.tmp 2] R [] [] 3000 [.code (bodyOf Tryz.f159)] ([a0] ++ List.replicate (Tryz.f159.ntmps - 1) lundef) st = w159 a0 R st := by kernel_rfl
theorem c159 (a0 : LV) {R : LV → LState → Prop} {st : LState} (h : w159 a0 R st) : LCalls Tryz.prog 159 [a0] st R :=
  LCalls.of cm_mixed Tryz.func159 (show Tryz.f159.body = some (bodyOf Tryz.f159) by kernel_rfl) (by kernel_rfl) (show Tryz.f159.results.toList = [.tmp 2] by kernel_rfl) (levT_sound cm_mixed 3000 (Eq.mpr (w159_eq a0 R st) h))

/-- (flange.value.Value).At -/
def w50 (a0 a1 : LV) (R : LV → LState → Prop) (st : LState) : Prop :=
  bd2 (lbox st a0) fun v0 st1 => nw st1 [LV.nili] fun v2 st3 => bd (fAddr 0 v0) fun v4 => bd (ld1 st3 v4) fun v5 => bd (asC 173 (some LV.nilm) v5 true) fun v6 => bd (lextract v6 0) fun v7 => bd (lextract v6 1) fun _v8 =>
  bd (mget st3 true (some (LV.agg [LV.nili])) v7 a1 true) fun v9 => bd (lextract v9 0) fun v10 => bd (lextract v9 1) fun v11 => nw st3 [LV.nili] fun v12 st13 => bd2 (lmk (stV st13 1 v12 v10)) fun _v14 st15 => bd (ldA st15
  v12 1) fun v16 => bd2 (lmk (stV st15 1 v2 v16)) fun _v17 st18 => bd (ldA st18 v2 1) fun v19 => R (LV.tup [v19, v11]) st18
theorem w50_eq (a0 a1 : LV) (R : LV → LState → Prop) (st : LState) : levT Tryz.prog [.cell 4 57, .tmp 5] R [] [] 3000 [.code (bodyOf Tryz.f50)] ([a0, a1] ++ List.replicate (Tryz.f50.ntmps - 2) lundef) st = w50 a0 a1 R st := by kernel_rfl
theorem c50 (a0 a1 : LV) {R : LV → LState → Prop} {st : LState} (h : w50 a0 a1 R st) : LCalls Tryz.prog 50 [a0, a1] st R :=
  LCalls.of cm_mixed Tryz.func50 (show Tryz.f50.body = some (bodyOf Tryz.f50) by kernel_rfl) (by kernel_rfl) (show Tryz.f50.results.toList = [.cell 4 57, .tmp 5] by kernel_rfl) (levT_sound cm_mixed 3000 (Eq.mpr (w50_eq a0 a1 R st) h))

/-- flange.value.Same -/
def w48 (a0 a1 : LV) (R : LV → LState → Prop) (st : LState) : Prop :=
  bd2 (lbox st a0) fun v0 st1 => bd2 (lbox st1 a1) fun v2 st3 => bd (fAddr 0 v0) fun v4 => bd (ld1 st3 v4) fun v5 => bd (asC 171 (some LV.nils) v5 true) fun v6 => bd (lextract v6 1) fun v7 => bd (lextract v6 0) fun v8 =>
  bsel v7 (bd (fAddr 0 v2) fun v9 => bd (ld1 st3 v9) fun v10 => bd (asC 171 (some LV.nils) v10 true) fun v11 => bd (lextract v11 0) fun v12 => bd (lextract v11 1) fun v13 => bsel v13 (LCalls Tryz.prog 113 [v8, v12, LV.fn
  (Fn.func 48) [] []] st3 fun v14 st15 => R v14 st15) (R (LV.bool false) st3)) (bd (asC 173 (some LV.nilm) v5 true) fun v16 => bd (lextract v16 1) fun v17 => bd (lextract v16 0) fun v18 => bsel v17 (bd (fAddr 0 v2) fun v19
  => bd (ld1 st3 v19) fun v20 => bd (asC 173 (some LV.nilm) v20 true) fun v21 => bd (lextract v21 0) fun v22 => bd (lextract v21 1) fun v23 => bsel v23 (LCalls Tryz.prog 114 [v18, v22, LV.fn (Fn.func 48) [] []] st3 fun v24
  st25 => R v24 st25) (R (LV.bool false) st3)) (bd (fAddr 0 v2) fun v26 => bd (ld1 st3 v26) fun v27 => bd (asC 171 (some LV.nils) v27 true) fun v28 => bd (lextract v28 1) fun v29 => bd (lextract v28 0) fun _v30 => bd (asC
  173 (some LV.nilm) v27 true) fun v31 => bd (lextract v31 1) fun v32 => bd (lextract v31 0) fun _v33 => bd (lpick v29 (LV.bool true) v32) fun v34 => bsel v34 (R (LV.bool false) st3) (bd (fAddr 0 v0) fun v35 => bd (ld1 st3
  v35) fun v36 => bd (fAddr 0 v2) fun v37 => bd (ld1 st3 v37) fun v38 => bd (eqB BinOp.eql (eqIf true (eqDyn Tryz.prog) v36 v38)) fun v39 => R v39 st3)))
theorem w48_eq (a0 a1 : LV) (R : LV → LState → Prop) (st : LState) : levT Tryz.prog [.tmp 4] R [] [] 3000 [.code (bodyOf Tryz.f48)] ([a0, a1] ++ List.replicate (Tryz.f48.ntmps - 2) lundef) st = w48 a0 a1 R st := by kernel_rfl
theorem c48 (a0 a1 : LV) {R : LV → LState → Prop} {st : LState} (h : w48 a0 a1 R st) : LCalls Tryz.prog 48 [a0, a1] st R :=
  LCalls.of cm_mixed Tryz.func48 (show Tryz.f48.body = some (bodyOf Tryz.f48) by kernel_rfl) (by kernel_rfl) (show Tryz.f48.results.toList = [.tmp 4] by kernel_rfl) (levT_sound cm_mixed 3000 (Eq.mpr (w48_eq a0 a1 R st) h))

/-- slices.EqualFunc[flange.value.list,flange.value.list,flange.value.Value,flange.value.Value] -/
def w113 (a0 a1 a2 : LV) (R : LV → LState → Prop) (st : LState) : Prop :=
  bd (lenSl a0) fun v0 => bd (lenSl a1) fun v1 => bd (bInt BinOp.neq v0 v1) fun v2 => bsel v2 (R (LV.bool false) st) (bd (lenSl a0) fun v3 => P113_1 a1 a2 a0 v3 (LV.int IntKind.i64 0) R st)
theorem w113_eq (a0 a1 a2 : LV) (R : LV → LState → Prop) (st : LState) : levT Tryz.prog [.tmp 6] R [0, 3, 4, 5, 6, 7, 8, 9, 10, 11, 12, 13, 14, 18, 19, 20, 21, 22, 23, 24, 25, 26, 27, 28, 29, 30, 31] [] 3000 [.code (bodyOf Tryz.f113)] ([a0, a1, a2] ++ List.replicate (Tryz.f113.ntmps - 3) lundef) st = w113 a0 a1 a2 R st := by kernel_rfl
theorem c113 (a0 a1 a2 : LV) {R : LV → LState → Prop} {st : LState} (h : w113 a0 a1 a2 R st) : LCalls Tryz.prog 113 [a0, a1, a2] st R :=
  LCalls.of cm_mixed Tryz.func113 (show Tryz.f113.body = some (bodyOf Tryz.f113) by kernel_rfl) (by kernel_rfl) (show Tryz.f113.results.toList = [.tmp 6] by kernel_rfl) (levT_sound cm_mixed 3000 (Eq.mpr (w113_eq a0 a1 a2 R st) h))

/-- slices.EqualFunc[flange.value.list,flange.value.list,flange.value.Value,flange.value.Value], from point 1 on -/
def w113_1 (x1 x2 x15 x16 x17 : LV) (R : LV → LState → Prop) (st : LState) : Prop :=
  bd (bInt BinOp.lss x17 x16) fun v0 => bsel v0 (bd (ixSl 1 x15 x17) fun v1 => bd (ldA st v1 1) fun v2 => nw st [LV.nili] fun v3 st4 => bd2 (lmk (stV st4 1 v3 v2)) fun _v5 st6 => bd (ixSl 1 x1 x17) fun v7 => bd (ldA st6 v7
  1) fun v8 => nw st6 [LV.nili] fun v9 st10 => bd2 (lmk (stV st10 1 v9 v8)) fun _v11 st12 => bd (ldA st12 v3 1) fun v13 => bd (ldA st12 v9 1) fun v14 => bd2 (lclo x2 [v13, v14]) fun f15 xs16 => LCalls Tryz.prog f15 xs16
  st12 fun v17 st18 => bd (lun UnOp.not v17) fun v19 => bsel v19 (R (LV.bool false) st18) (bd (bInt BinOp.add x17 (LV.int IntKind.i64 1)) fun v20 => P113_1 x1 x2 x15 x16 v20 R st18)) (R (LV.bool true) st)
theorem w113_1_eq (x1 x2 x15 x16 x17 : LV) (R : LV → LState → Prop) (st : LState) : levT Tryz.prog [.tmp 6] R [0, 3, 4, 5, 6, 7, 8, 9, 10, 11, 12, 13, 14, 18, 19, 20, 21, 22, 23, 24, 25, 26, 27, 28, 29, 30, 31] [] 3000 (stepIn (pointN Tryz.f113 1)) [.junk, x1, x2, .junk, .junk, .junk, .junk, .junk, .junk, .junk, .junk, .junk, .junk, .junk, .junk, x15, x16, x17, .junk, .junk, .junk, .junk, .junk, .junk, .junk, .junk, .junk, .junk, .junk, .junk, .junk, .junk] st = w113_1 x1 x2 x15 x16 x17 R st := by kernel_rfl
theorem p113_1 (x1 x2 x15 x16 x17 : LV) {R : LV → LState → Prop} {st : LState} (h : w113_1 x1 x2 x15 x16 x17 R st) : P113_1 x1 x2 x15 x16 x17 R st :=
  LT.at cm_mixed 3000 (Eq.mpr (w113_1_eq x1 x2 x15 x16 x17 R st) h)

/-- maps.EqualFunc[flange.value.table,flange.value.table,string,flange.value.Value,flange.value.Value] -/
def w114 (a0 a1 a2 : LV) (R : LV → LState → Prop) (st : LState) : Prop :=
  bd (lenMap st a0) fun v0 => bd (lenMap st a1) fun v1 => bd (bInt BinOp.neq v0 v1) fun v2 => bsel v2 (R (LV.bool false) st) (bd2 (lrange Tryz.prog st 173 a0) fun v3 st4 => P114_1 a1 a2 v3 R st4)
theorem w114_eq (a0 a1 a2 : LV) (R : LV → LState → Prop) (st : LState) : levT Tryz.prog [.tmp 6] R [0, 3, 4, 5, 6, 7, 8, 9, 10, 11, 12, 13, 14, 15, 16, 18, 19, 20, 21, 22, 23, 24, 25, 26, 27, 28, 29, 30, 31, 32, 33, 34, 35, 36, 37] [] 3000 [.code (bodyOf Tryz.f114)] ([a0, a1, a2] ++ List.replicate (Tryz.f114.ntmps - 3) lundef) st = w114 a0 a1 a2 R st := by kernel_rfl
theorem c114 (a0 a1 a2 : LV) {R : LV → LState → Prop} {st : LState} (h : w114 a0 a1 a2 R st) : LCalls Tryz.prog 114 [a0, a1, a2] st R :=
  LCalls.of cm_mixed Tryz.func114 (show Tryz.f114.body = some (bodyOf Tryz.f114) by kernel_rfl) (by kernel_rfl) (show Tryz.f114.results.toList = [.tmp 6] by kernel_rfl) (levT_sound cm_mixed 3000 (Eq.mpr (w114_eq a0 a1 a2 R st) h))

/-- maps.EqualFunc[flange.value.table,flange.value.table,string,flange.value.Value,flange.value.Value], from point 1 on -/
def w114_1 (x1 x2 x17 : LV) (R : LV → LState → Prop) (st : LState) : Prop :=
  lnextK st x17 fun v0 st1 => bd (lextract v0 0) fun v2 => bsel v2 (bd (lentry st1 x17) fun v3 => bd (lextract v3 0) fun v4 => bd (lextract v3 1) fun v5 => nw st1 [LV.nili] fun v6 st7 => bd2 (lmk (stV st7 1 v6 v5)) fun _v8
  st9 => bd (mget st9 true (some (LV.agg [LV.nili])) x1 v4 true) fun v10 => bd (lextract v10 0) fun v11 => bd (lextract v10 1) fun v12 => nw st9 [LV.nili] fun v13 st14 => bd2 (lmk (stV st14 1 v13 v11)) fun _v15 st16 => bd
  (lun UnOp.not v12) fun v17 => bsel v17 (R (LV.bool false) st16) (bd (ldA st16 v6 1) fun v18 => bd (ldA st16 v13 1) fun v19 => bd2 (lclo x2 [v18, v19]) fun f20 xs21 => LCalls Tryz.prog f20 xs21 st16 fun v22 st23 => bd
  (lun UnOp.not v22) fun v24 => bsel v24 (R (LV.bool false) st23) (P114_1 x1 x2 x17 R st23))) (R (LV.bool true) st1)
theorem w114_1_eq (x1 x2 x17 : LV) (R : LV → LState → Prop) (st : LState) : levT Tryz.prog [.tmp 6] R [0, 3, 4, 5, 6, 7, 8, 9, 10, 11, 12, 13, 14, 15, 16, 18, 19, 20, 21, 22, 23, 24, 25, 26, 27, 28, 29, 30, 31, 32, 33, 34, 35, 36, 37] [] 3000 (stepIn (pointN Tryz.f114 1)) [.junk, x1, x2, .junk, .junk, .junk, .junk, .junk, .junk, .junk, .junk, .junk, .junk, .junk, .junk, .junk, .junk, x17, .junk, .junk, .junk, .junk, .junk, .junk, .junk, .junk, .junk, .junk, .junk, .junk, .junk, .junk, .junk, .junk, .junk, .junk, .junk, .junk] st = w114_1 x1 x2 x17 R st := by kernel_rfl
theorem p114_1 (x1 x2 x17 : LV) {R : LV → LState → Prop} {st : LState} (h : w114_1 x1 x2 x17 R st) : P114_1 x1 x2 x17 R st :=
  LT.at cm_mixed 3000 (Eq.mpr (w114_1_eq x1 x2 x17 R st) h)

/-- (flange.value.Value).Known -/
def w55 (a0 : LV) (R : LV → LState → Prop) (st : LState) : Prop :=
  bd2 (lbox st a0) fun v0 st1 => bd (ldA st1 v0 1) fun v2 => LCalls Tryz.prog 119 [v2, LV.fn (Fn.func 120) [] []] st1 fun v3 st4 => R v3 st4
theorem w55_eq (a0 : LV) (R : LV → LState → Prop) (st : LState) : levT Tryz.prog [.tmp 2] R [] [] 3000 [.code (bodyOf Tryz.f55)] ([a0] ++ List.replicate (Tryz.f55.ntmps - 1) lundef) st = w55 a0 R st := by kernel_rfl
theorem c55 (a0 : LV) {R : LV → LState → Prop} {st : LState} (h : w55 a0 R st) : LCalls Tryz.prog 55 [a0] st R :=
  LCalls.of cm_mixed Tryz.func55 (show Tryz.f55.body = some (bodyOf Tryz.f55) by kernel_rfl) (by kernel_rfl) (show Tryz.f55.results.toList = [.tmp 2] by kernel_rfl) (levT_sound cm_mixed 3000 (Eq.mpr (w55_eq a0 R st) h))

/-- (flange.value.Value).each -/
def w119 (a0 a1 : LV) (R : LV → LState → Prop) (st : LState) : Prop :=
  bd2 (lbox st a0) fun v0 st1 => bd2 (lbox st1 a1) fun v2 st3 => bd (ld1 st3 v2) fun v4 => bd (ldA st3 v0 1) fun v5 => bd2 (lclo v4 [v5]) fun f6 xs7 => LCalls Tryz.prog f6 xs7 st3 fun v8 st9 => bsel v8 (bd (ldA st9 v0 1)
  fun v10 => LCalls Tryz.prog 101 [v10] st9 fun v11 st12 => LCalls Tryz.prog 177 [v11, LV.fn (Fn.func 178) [] [v2]] st12 fun v13 st14 => bd (lun UnOp.not v13) fun v15 => R v15 st14) (R (LV.bool false) st9)
theorem w119_eq (a0 a1 : LV) (R : LV → LState → Prop) (st : LState) : levT Tryz.prog [.tmp 4] R [] [] 3000 [.code (bodyOf Tryz.f119)] ([a0, a1] ++ List.replicate (Tryz.f119.ntmps - 2) lundef) st = w119 a0 a1 R st := by kernel_rfl
theorem c119 (a0 a1 : LV) {R : LV → LState → Prop} {st : LState} (h : w119 a0 a1 R st) : LCalls Tryz.prog 119 [a0, a1] st R :=
  LCalls.of cm_mixed Tryz.func119 (show Tryz.f119.body = some (bodyOf Tryz.f119) by kernel_rfl) (by kernel_rfl) (show Tryz.f119.results.toList = [.tmp 4] by kernel_rfl) (levT_sound cm_mixed 3000 (Eq.mpr (w119_eq a0 a1 R st) h))

/-- (flange.value.Value).Known$1 -/
def w120 (a0 : LV) (R : LV → LState → Prop) (st : LState) : Prop :=
  bd2 (lbox st a0) fun v0 st1 => bd (ldA st1 v0 1) fun v2 => LCalls Tryz.prog 46 [v2] st1 fun v3 st4 => bd (bInt BinOp.neq v3 (LV.int IntKind.i64 1)) fun v5 => R v5 st4
theorem w120_eq (a0 : LV) (R : LV → LState → Prop) (st : LState) : levT Tryz.prog [.tmp 2] R [] [] 3000 [.code (bodyOf Tryz.f120)] ([a0] ++ List.replicate (Tryz.f120.ntmps - 1) lundef) st = w120 a0 R st := by kernel_rfl
theorem c120 (a0 : LV) {R : LV → LState → Prop} {st : LState} (h : w120 a0 R st) : LCalls Tryz.prog 120 [a0] st R :=
  LCalls.of cm_mixed Tryz.func120 (show Tryz.f120.body = some (bodyOf Tryz.f120) by kernel_rfl) (by kernel_rfl) (show Tryz.f120.results.toList = [.tmp 2] by kernel_rfl) (levT_sound cm_mixed 3000 (Eq.mpr (w120_eq a0 R st) h))

/-- slices.ContainsFunc[[]flange.value.Value,flange.value.Value] -/
def w177 (a0 a1 : LV) (R : LV → LState → Prop) (st : LState) : Prop :=
  LCalls Tryz.prog 216 [a0, a1] st fun v0 st1 => bd (bInt BinOp.geq v0 (LV.int IntKind.i64 0)) fun v2 => R v2 st1
theorem w177_eq (a0 a1 : LV) (R : LV → LState → Prop) (st : LState) : levT Tryz.prog [.tmp 4] R [] [] 3000 [.code (bodyOf Tryz.f177)] ([a0, a1] ++ List.replicate (Tryz.f177.ntmps - 2) lundef) st = w177 a0 a1 R st := by kernel_rfl
theorem c177 (a0 a1 : LV) {R : LV → LState → Prop} {st : LState} (h : w177 a0 a1 R st) : LCalls Tryz.prog 177 [a0, a1] st R :=
  LCalls.of cm_mixed Tryz.func177 (show Tryz.f177.body = some (bodyOf Tryz.f177) by kernel_rfl) (by kernel_rfl) (show Tryz.f177.results.toList = [.tmp 4] by kernel_rfl) (levT_sound cm_mixed 3000 (Eq.mpr (w177_eq a0 a1 R st) h))

/-- (flange.value.Value).each$1 -/
def w178 (a0 a1 : LV) (R : LV → LState → Prop) (st : LState) : Prop :=
  bd2 (lbox st a0) fun v0 st1 => bd (ldA st1 v0 1) fun v2 => bd (ld1 st1 a1) fun v3 => LCalls Tryz.prog 119 [v2, v3] st1 fun v4 st5 => bd (lun UnOp.not v4) fun v6 => R v6 st5
theorem w178_eq (a0 a1 : LV) (R : LV → LState → Prop) (st : LState) : levT Tryz.prog [.tmp 3] R [] [] 3000 [.code (bodyOf Tryz.f178)] ([a0, a1] ++ List.replicate (Tryz.f178.ntmps - 2) lundef) st = w178 a0 a1 R st := by kernel_rfl
theorem c178 (a0 a1 : LV) {R : LV → LState → Prop} {st : LState} (h : w178 a0 a1 R st) : LCalls Tryz.prog 178 [a0, a1] st R :=
  LCalls.of cm_mixed Tryz.func178 (show Tryz.f178.body = some (bodyOf Tryz.f178) by kernel_rfl) (by kernel_rfl) (show Tryz.f178.results.toList = [.tmp 3] by kernel_rfl) (levT_sound cm_mixed 3000 (Eq.mpr (w178_eq a0 a1 R st) h))

/-- slices.IndexFunc[[]flange.value.Value,flange.value.Value] -/
def w216 (a0 a1 : LV) (R : LV → LState → Prop) (st : LState) : Prop :=
  bd (lenSl a0) fun v0 => P216_1 a0 a1 v0 (LV.int IntKind.i64 0) R st
theorem w216_eq (a0 a1 : LV) (R : LV → LState → Prop) (st : LState) : levT Tryz.prog [.tmp 4] R [2, 3, 4, 5, 6, 9, 10, 11, 12, 13, 14, 15, 16, 17, 18] [] 3000 [.code (bodyOf Tryz.f216)] ([a0, a1] ++ List.replicate (Tryz.f216.ntmps - 2) lundef) st = w216 a0 a1 R st := by kernel_rfl
theorem c216 (a0 a1 : LV) {R : LV → LState → Prop} {st : LState} (h : w216 a0 a1 R st) : LCalls Tryz.prog 216 [a0, a1] st R :=
  LCalls.of cm_mixed Tryz.func216 (show Tryz.f216.body = some (bodyOf Tryz.f216) by kernel_rfl) (by kernel_rfl) (show Tryz.f216.results.toList = [.tmp 4] by kernel_rfl) (levT_sound cm_mixed 3000 (Eq.mpr (w216_eq a0 a1 R st) h))

/-- slices.IndexFunc[[]flange.value.Value,flange.value.Value], from point 1 on -/
def w216_1 (x0 x1 x7 x8 : LV) (R : LV → LState → Prop) (st : LState) : Prop :=
  bd (bInt BinOp.lss x8 x7) fun v0 => bsel v0 (bd (ixSl 1 x0 x8) fun v1 => bd (ldA st v1 1) fun v2 => bd2 (lclo x1 [v2]) fun f3 xs4 => LCalls Tryz.prog f3 xs4 st fun v5 st6 => bsel v5 (R x8 st6) (bd (bInt BinOp.add x8
  (LV.int IntKind.i64 1)) fun v7 => P216_1 x0 x1 x7 v7 R st6)) (R (LV.int IntKind.i64 (-1)) st)
theorem w216_1_eq (x0 x1 x7 x8 : LV) (R : LV → LState → Prop) (st : LState) : levT Tryz.prog [.tmp 4] R [2, 3, 4, 5, 6, 9, 10, 11, 12, 13, 14, 15, 16, 17, 18] [] 3000 (stepIn (pointN Tryz.f216 1)) [x0, x1, .junk, .junk, .junk, .junk, .junk, x7, x8, .junk, .junk, .junk, .junk, .junk, .junk, .junk, .junk, .junk, .junk] st = w216_1 x0 x1 x7 x8 R st := by kernel_rfl
theorem p216_1 (x0 x1 x7 x8 : LV) {R : LV → LState → Prop} {st : LState} (h : w216_1 x0 x1 x7 x8 R st) : P216_1 x0 x1 x7 x8 R st :=
  LT.at cm_mixed 3000 (Eq.mpr (w216_1_eq x0 x1 x7 x8 R st) h)

/-- flange.gate.Agrees -/
def w56 (a0 a1 : LV) (R : LV → LState → Prop) (st : LState) : Prop :=
  bd2 (lbox st a0) fun v0 st1 => bd2 (lbox st1 a1) fun v2 st3 => bd (ldA st3 v0 1) fun v4 => LCalls Tryz.prog 46 [v4] st3 fun v5 st6 => bd (bInt BinOp.eql v5 (LV.int IntKind.i64 1)) fun v7 => bsel v7 (R (LV.bool true) st6)
  (bd (ldA st6 v2 1) fun v8 => LCalls Tryz.prog 46 [v8] st6 fun v9 st10 => bd (bInt BinOp.neq v5 v9) fun v11 => bsel v11 (R (LV.bool false) st10) (bd (bInt BinOp.eql v5 (LV.int IntKind.i64 6)) fun v12 => bsel v12 (bd (ldA
  st10 v0 1) fun v13 => bd (ldA st10 v2 1) fun v14 => LCalls Tryz.prog 49 [v13] st10 fun v15 st16 => ldA st16 v2 1 = some v14 ∧ LCalls Tryz.prog 49 [v14] st16 fun v17 st18 => LCalls Tryz.prog 121 [v15, v17] st18 fun v19
  st20 => bsel v19 (bd (ldA st20 v0 1) fun v21 => bd (ldA st20 v2 1) fun v22 => LCalls Tryz.prog 101 [v21] st20 fun v23 st24 => ldA st24 v2 1 = some v22 ∧ LCalls Tryz.prog 101 [v22] st24 fun v25 st26 => LCalls Tryz.prog
  122 [v23, v25, LV.fn (Fn.func 56) [] []] st26 fun v27 st28 => R v27 st28) (R (LV.bool false) st20)) (bd (bInt BinOp.eql v5 (LV.int IntKind.i64 7)) fun v29 => bsel v29 (bd (ldA st10 v0 1) fun v30 => bd (ldA st10 v2 1) fun
  v31 => LCalls Tryz.prog 49 [v30] st10 fun v32 st33 => ldA st33 v2 1 = some v31 ∧ LCalls Tryz.prog 49 [v31] st33 fun v34 st35 => LCalls Tryz.prog 121 [v32, v34] st35 fun v36 st37 => bsel v36 (bd (ldA st37 v0 1) fun v38 =>
  bd (ldA st37 v2 1) fun v39 => LCalls Tryz.prog 101 [v38] st37 fun v40 st41 => ldA st41 v2 1 = some v39 ∧ LCalls Tryz.prog 101 [v39] st41 fun v42 st43 => LCalls Tryz.prog 122 [v40, v42, LV.fn (Fn.func 56) [] []] st43 fun
  v44 st45 => R v44 st45) (R (LV.bool false) st37)) (bd (ldA st10 v0 1) fun v46 => bd (ldA st10 v2 1) fun v47 => LCalls Tryz.prog 48 [v46, v47] st10 fun v48 st49 => R v48 st49))))
theorem w56_eq (a0 a1 : LV) (R : LV → LState → Prop) (st : LState) : levT Tryz.prog [.tmp 4] R [] [] 3000 [.code (bodyOf Tryz.f56)] ([a0, a1] ++ List.replicate (Tryz.f56.ntmps - 2) lundef) st = w56 a0 a1 R st := by kernel_rfl
theorem c56 (a0 a1 : LV) {R : LV → LState → Prop} {st : LState} (h : w56 a0 a1 R st) : LCalls Tryz.prog 56 [a0, a1] st R :=
  LCalls.of cm_mixed Tryz.func56 (show Tryz.f56.body = some (bodyOf Tryz.f56) by kernel_rfl) (by kernel_rfl) (show Tryz.f56.results.toList = [.tmp 4] by kernel_rfl) (levT_sound cm_mixed 3000 (Eq.mpr (w56_eq a0 a1 R st) h))

/-- slices.Equal[[]string,string] -/
def w121 (a0 a1 : LV) (R : LV → LState → Prop) (st : LState) : Prop :=
  bd (lenSl a0) fun v0 => bd (lenSl a1) fun v1 => bd (bInt BinOp.neq v0 v1) fun v2 => bsel v2 (R (LV.bool false) st) (bd (lenSl a0) fun v3 => P121_1 a0 a1 v3 (LV.int IntKind.i64 0) R st)
theorem w121_eq (a0 a1 : LV) (R : LV → LState → Prop) (st : LState) : levT Tryz.prog [.tmp 4] R [2, 3, 4, 5, 6, 7, 8, 9, 10, 11, 14, 15, 16, 17, 18, 19, 20, 21, 22, 23, 24, 25] [] 3000 [.code (bodyOf Tryz.f121)] ([a0, a1] ++ List.replicate (Tryz.f121.ntmps - 2) lundef) st = w121 a0 a1 R st := by kernel_rfl
theorem c121 (a0 a1 : LV) {R : LV → LState → Prop} {st : LState} (h : w121 a0 a1 R st) : LCalls Tryz.prog 121 [a0, a1] st R :=
  LCalls.of cm_mixed Tryz.func121 (show Tryz.f121.body = some (bodyOf Tryz.f121) by kernel_rfl) (by kernel_rfl) (show Tryz.f121.results.toList = [.tmp 4] by kernel_rfl) (levT_sound cm_mixed 3000 (Eq.mpr (w121_eq a0 a1 R st) h))

/-- slices.Equal[[]string,string], from point 1 on -/
def w121_1 (x0 x1 x12 x13 : LV) (R : LV → LState → Prop) (st : LState) : Prop :=
  bd (bInt BinOp.lss x13 x12) fun v0 => bsel v0 (bd (ixSl 1 x0 x13) fun v1 => bd (ld1 st v1) fun v2 => bd (ixSl 1 x1 x13) fun v3 => bd (ld1 st v3) fun v4 => bd (bStr BinOp.neq v2 v4) fun v5 => bsel v5 (R (LV.bool false)
  st) (bd (bInt BinOp.add x13 (LV.int IntKind.i64 1)) fun v6 => P121_1 x0 x1 x12 v6 R st)) (R (LV.bool true) st)
theorem w121_1_eq (x0 x1 x12 x13 : LV) (R : LV → LState → Prop) (st : LState) : levT Tryz.prog [.tmp 4] R [2, 3, 4, 5, 6, 7, 8, 9, 10, 11, 14, 15, 16, 17, 18, 19, 20, 21, 22, 23, 24, 25] [] 3000 (stepIn (pointN Tryz.f121 1)) [x0, x1, .junk, .junk, .junk, .junk, .junk, .junk, .junk, .junk, .junk, .junk, x12, x13, .junk, .junk, .junk, .junk, .junk, .junk, .junk, .junk, .junk, .junk, .junk, .junk] st = w121_1 x0 x1 x12 x13 R st := by kernel_rfl
theorem p121_1 (x0 x1 x12 x13 : LV) {R : LV → LState → Prop} {st : LState} (h : w121_1 x0 x1 x12 x13 R st) : P121_1 x0 x1 x12 x13 R st :=
  LT.at cm_mixed 3000 (Eq.mpr (w121_1_eq x0 x1 x12 x13 R st) h)

/-- slices.EqualFunc[[]flange.value.Value,[]flange.value.Value,flange.value.Value,flange.value.Value] -/
def w122 (a0 a1 a2 : LV) (R : LV → LState → Prop) (st : LState) : Prop :=
  bd (lenSl a0) fun v0 => bd (lenSl a1) fun v1 => bd (bInt BinOp.neq v0 v1) fun v2 => bsel v2 (R (LV.bool false) st) (bd (lenSl a0) fun v3 => P122_1 a1 a2 a0 v3 (LV.int IntKind.i64 0) R st)
theorem w122_eq (a0 a1 a2 : LV) (R : LV → LState → Prop) (st : LState) : levT Tryz.prog [.tmp 6] R [0, 3, 4, 5, 6, 7, 8, 9, 10, 11, 12, 13, 14, 18, 19, 20, 21, 22, 23, 24, 25, 26, 27, 28, 29, 30, 31] [] 3000 [.code (bodyOf Tryz.f122)] ([a0, a1, a2] ++ List.replicate (Tryz.f122.ntmps - 3) lundef) st = w122 a0 a1 a2 R st := by kernel_rfl
theorem c122 (a0 a1 a2 : LV) {R : LV → LState → Prop} {st : LState} (h : w122 a0 a1 a2 R st) : LCalls Tryz.prog 122 [a0, a1, a2] st R :=
  LCalls.of cm_mixed Tryz.func122 (show Tryz.f122.body = some (bodyOf Tryz.f122) by kernel_rfl) (by kernel_rfl) (show Tryz.f122.results.toList = [.tmp 6] by kernel_rfl) (levT_sound cm_mixed 3000 (Eq.mpr (w122_eq a0 a1 a2 R st) h))

/-- slices.EqualFunc[[]flange.value.Value,[]flange.value.Value,flange.value.Value,flange.value.Value], from point 1 on -/
def w122_1 (x1 x2 x15 x16 x17 : LV) (R : LV → LState → Prop) (st : LState) : Prop :=
  bd (bInt BinOp.lss x17 x16) fun v0 => bsel v0 (bd (ixSl 1 x15 x17) fun v1 => bd (ldA st v1 1) fun v2 => nw st [LV.nili] fun v3 st4 => bd2 (lmk (stV st4 1 v3 v2)) fun _v5 st6 => bd (ixSl 1 x1 x17) fun v7 => bd (ldA st6 v7
  1) fun v8 => nw st6 [LV.nili] fun v9 st10 => bd2 (lmk (stV st10 1 v9 v8)) fun _v11 st12 => bd (ldA st12 v3 1) fun v13 => bd (ldA st12 v9 1) fun v14 => bd2 (lclo x2 [v13, v14]) fun f15 xs16 => LCalls Tryz.prog f15 xs16
  st12 fun v17 st18 => bd (lun UnOp.not v17) fun v19 => bsel v19 (R (LV.bool false) st18) (bd (bInt BinOp.add x17 (LV.int IntKind.i64 1)) fun v20 => P122_1 x1 x2 x15 x16 v20 R st18)) (R (LV.bool true) st)
theorem w122_1_eq (x1 x2 x15 x16 x17 : LV) (R : LV → LState → Prop) (st : LState) : levT Tryz.prog [.tmp 6] R [0, 3, 4, 5, 6, 7, 8, 9, 10, 11, 12, 13, 14, 18, 19, 20, 21, 22, 23, 24, 25, 26, 27, 28, 29, 30, 31] [] 3000 (stepIn (pointN Tryz.f122 1)) [.junk, x1, x2, .junk, .junk, .junk, .junk, .junk, .junk, .junk, .junk, .junk, .junk, .junk, .junk, x15, x16, x17, .junk, .junk, .junk, .junk, .junk, .junk, .junk, .junk, .junk, .junk, .junk, .junk, .junk, .junk] st = w122_1 x1 x2 x15 x16 x17 R st := by kernel_rfl
theorem p122_1 (x1 x2 x15 x16 x17 : LV) {R : LV → LState → Prop} {st : LState} (h : w122_1 x1 x2 x15 x16 x17 R st) : P122_1 x1 x2 x15 x16 x17 R st :=
  LT.at cm_mixed 3000 (Eq.mpr (w122_1_eq x1 x2 x15 x16 x17 R st) h)

/-- flange.gate.Rule -/
def w57 (a0 : LV) (R : LV → LState → Prop) (st : LState) : Prop :=
  bd (bInt BinOp.lss a0 (LV.int IntKind.i64 0)) fun v0 => bsel v0 (R (LV.str []) st) (bd (bInt BinOp.geq a0 (LV.int IntKind.i64 8)) fun v1 => bsel v1 (R (LV.str []) st) (LCalls Tryz.prog 123 [] st fun v2 st3 => bd (ixAgg 8
  (fun x j => fld1 (j * 1) x) v2 a0) fun v4 => R v4 st3))
theorem w57_eq (a0 : LV) (R : LV → LState → Prop) (st : LState) : levT Tryz.prog [.tmp 2] R [] [] 3000 [.code (bodyOf Tryz.f57)] ([a0] ++ List.replicate (Tryz.f57.ntmps - 1) lundef) st = w57 a0 R st := by kernel_rfl
theorem c57 (a0 : LV) {R : LV → LState → Prop} {st : LState} (h : w57 a0 R st) : LCalls Tryz.prog 57 [a0] st R :=
  LCalls.of cm_mixed Tryz.func57 (show Tryz.f57.body = some (bodyOf Tryz.f57) by kernel_rfl) (by kernel_rfl) (show Tryz.f57.results.toList = [.tmp 2] by kernel_rfl) (levT_sound cm_mixed 3000 (Eq.mpr (w57_eq a0 R st) h))

/-- flange.gate.names -/
def w123 (R : LV → LState → Prop) (st : LState) : Prop :=
  nw st [LV.str [], LV.str [], LV.str [], LV.str [], LV.str [], LV.str [], LV.str [], LV.str []] fun v0 st1 => bd (mkAgg (lfill (fun i => some (i * 1, 1)) [LV.str [], LV.str [], LV.str [], LV.str [], LV.str [], LV.str [],
  LV.str [], LV.str []] [(0, LV.str [102, 105, 110, 101]), (1, LV.str [115, 104, 97, 112, 101]), (2, LV.str [115, 101, 116]), (3, LV.str [117, 110, 115, 101, 116]), (4, LV.str [104, 111, 108, 101]), (5, LV.str [98, 114,
  111, 107, 101, 110]), (6, LV.str [110, 97, 109, 101]), (7, LV.str [104, 117, 115, 104])])) fun v2 => bd2 (lmk (stV st1 8 v0 v2)) fun _v3 st4 => bd (ldA st4 v0 8) fun v5 => R v5 st4
theorem w123_eq (R : LV → LState → Prop) (st : LState) : levT Tryz.prog [.cell 0 190] R [] [] 3000 [.code (bodyOf Tryz.f123)] ([] ++ List.replicate (Tryz.f123.ntmps - 0) lundef) st = w123  R st := by kernel_rfl
theorem c123 {R : LV → LState → Prop} {st : LState} (h : w123  R st) : LCalls Tryz.prog 123 [] st R :=
  LCalls.of cm_mixed Tryz.func123 (show Tryz.f123.body = some (bodyOf Tryz.f123) by kernel_rfl) (by kernel_rfl) (show Tryz.f123.results.toList = [.cell 0 190] by kernel_rfl) (levT_sound cm_mixed 3000 (Eq.mpr (w123_eq  R st) h))

/-- (flange.value.Value).Bool -/
def w97 (a0 : LV) (R : LV → LState → Prop) (st : LState) : Prop :=
  bd2 (lbox st a0) fun v0 st1 => bd (fAddr 0 v0) fun v2 => bd (ld1 st1 v2) fun v3 => bd (asC 4 (some (LV.bool false)) v3 true) fun v4 => bd (lextract v4 0) fun v5 => bd (lextract v4 1) fun v6 => R (LV.tup [v5, v6]) st1
theorem w97_eq (a0 : LV) (R : LV → LState → Prop) (st : LState) : levT Tryz.prog [.tmp 2, .tmp 3] R [] [] 3000 [.code (bodyOf Tryz.f97)] ([a0] ++ List.replicate (Tryz.f97.ntmps - 1) lundef) st = w97 a0 R st := by kernel_rfl
theorem c97 (a0 : LV) {R : LV → LState → Prop} {st : LState} (h : w97 a0 R st) : LCalls Tryz.prog 97 [a0] st R :=
  LCalls.of cm_mixed Tryz.func97 (show Tryz.f97.body = some (bodyOf Tryz.f97) by kernel_rfl) (by kernel_rfl) (show Tryz.f97.results.toList = [.tmp 2, .tmp 3] by kernel_rfl) (levT_sound cm_mixed 3000 (Eq.mpr (w97_eq a0 R st) h))

/-- (flange.value.Value).Int -/
def w98 (a0 : LV) (R : LV → LState → Prop) (st : LState) : Prop :=
  bd2 (lbox st a0) fun v0 st1 => bd (fAddr 0 v0) fun v2 => bd (ld1 st1 v2) fun v3 => bd (asC 3 (some (LV.int IntKind.i64 0)) v3 true) fun v4 => bd (lextract v4 0) fun v5 => bd (lextract v4 1) fun v6 => R (LV.tup [v5, v6])
  st1
theorem w98_eq (a0 : LV) (R : LV → LState → Prop) (st : LState) : levT Tryz.prog [.tmp 2, .tmp 3] R [] [] 3000 [.code (bodyOf Tryz.f98)] ([a0] ++ List.replicate (Tryz.f98.ntmps - 1) lundef) st = w98 a0 R st := by kernel_rfl
theorem c98 (a0 : LV) {R : LV → LState → Prop} {st : LState} (h : w98 a0 R st) : LCalls Tryz.prog 98 [a0] st R :=
  LCalls.of cm_mixed Tryz.func98 (show Tryz.f98.body = some (bodyOf Tryz.f98) by kernel_rfl) (by kernel_rfl) (show Tryz.f98.results.toList = [.tmp 2, .tmp 3] by kernel_rfl) (levT_sound cm_mixed 3000 (Eq.mpr (w98_eq a0 R st) h))

/-- (flange.value.Value).Point -/
def w99 (a0 : LV) (R : LV → LState → Prop) (st : LState) : Prop :=
  bd2 (lbox st a0) fun v0 st1 => bd (fAddr 0 v0) fun v2 => bd (ld1 st1 v2) fun v3 => bd (asC 170 (some (LV.cplx FloatKind.f64 0 0)) v3 true) fun v4 => bd (lextract v4 0) fun v5 => bd (lextract v4 1) fun v6 => bd (lreal v5)
  fun v7 => bd (cvFI IntKind.i64 v7) fun v8 => bd (limag v5) fun v9 => bd (cvFI IntKind.i64 v9) fun v10 => R (LV.tup [v8, v10, v6]) st1
theorem w99_eq (a0 : LV) (R : LV → LState → Prop) (st : LState) : levT Tryz.prog [.tmp 2, .tmp 3, .tmp 4] R [] [] 3000 [.code (bodyOf Tryz.f99)] ([a0] ++ List.replicate (Tryz.f99.ntmps - 1) lundef) st = w99 a0 R st := by kernel_rfl
theorem c99 (a0 : LV) {R : LV → LState → Prop} {st : LState} (h : w99 a0 R st) : LCalls Tryz.prog 99 [a0] st R :=
  LCalls.of cm_mixed Tryz.func99 (show Tryz.f99.body = some (bodyOf Tryz.f99) by kernel_rfl) (by kernel_rfl) (show Tryz.f99.results.toList = [.tmp 2, .tmp 3, .tmp 4] by kernel_rfl) (levT_sound cm_mixed 3000 (Eq.mpr (w99_eq a0 R st) h))

/-- (flange.value.Value).Text -/
def w100 (a0 : LV) (R : LV → LState → Prop) (st : LState) : Prop :=
  bd2 (lbox st a0) fun v0 st1 => bd (fAddr 0 v0) fun v2 => bd (ld1 st1 v2) fun v3 => bd (asC 9 (some (LV.str [])) v3 true) fun v4 => bd (lextract v4 0) fun v5 => bd (lextract v4 1) fun v6 => R (LV.tup [v5, v6]) st1
theorem w100_eq (a0 : LV) (R : LV → LState → Prop) (st : LState) : levT Tryz.prog [.tmp 2, .tmp 3] R [] [] 3000 [.code (bodyOf Tryz.f100)] ([a0] ++ List.replicate (Tryz.f100.ntmps - 1) lundef) st = w100 a0 R st := by kernel_rfl
theorem c100 (a0 : LV) {R : LV → LState → Prop} {st : LState} (h : w100 a0 R st) : LCalls Tryz.prog 100 [a0] st R :=
  LCalls.of cm_mixed Tryz.func100 (show Tryz.f100.body = some (bodyOf Tryz.f100) by kernel_rfl) (by kernel_rfl) (show Tryz.f100.results.toList = [.tmp 2, .tmp 3] by kernel_rfl) (levT_sound cm_mixed 3000 (Eq.mpr (w100_eq a0 R st) h))

end Go.Proofs.YtknegckgmklnhaaGreatDoor

